/- Texts of the abs road (plain values, what code does to them, and the contracts of the functions that the law reaches). No condition. -/
import Derived.Test.YtjknjekemolndaaG8FnWitness
namespace Go.Proofs.Ytjknjekemolndaa.ZL
open Go Go.Proofs.Ytjknjekemolndaa.Abs Go.Proofs.Ytjknjekemolndaa.Abs.Pl Go.RowKit Go.Proofs
set_option linter.unusedVariables false
set_option linter.unusedSimpArgs false
set_option linter.unnecessarySimpa false
set_option maxRecDepth 100000
theorem callDraw {N nx s : Nat} {H : Store} {K : Eff → Prop} {cd : List Int} {c : Cu} (n : Nat) (kb : Key) (hn : n ≤ 5) (hc : c.1 ≤ cd.length) (h20 : cd.length ≤ 1048576) (hH : H kb = some (cuE cd c)) (hs : kb.1 ≠ s) (hnx : kb.1 < nx)
    (k1 : ∀ a : At, (drA cd n c).1 = (a.1, a.2.1, a.2.2, true) → K ⟨.agg [.ref (s, 0) a.1.length, I a.2.1, B a.2.2], [kb], [kb], up1 (s, 0) (some (rI a.1)) (up1 kb (some (cuE cd (drA cd n c).2)) noUp)⟩)
    (k2 : (drA cd n c).1.2.2.2 = false → K ⟨.agg [.nil, I 0, B false], [kb], [kb], up1 kb (some (cuE cd (drA cd n c).2)) noUp⟩) :
    CallJ Try.prog N nx s H 58 [.ptr kb 0, I n] K := by
  have hm := l2Draw cd n c hn hc h20
  have base : ∀ {r : V} {Hr : Store}, Cm Try.prog 58 cA [.ptr (0, 1) 0, I n] (cuH cd c) r Hr → (∀ k e, Hr k = some e → k.1 < 2 ∧ (k.1 = 0 → (cuH cd c k).isSome = true)) → K ⟨mapK (gk (fun _ => kb) s) r, [kb], [kb], upMut (fun _ => kb) (fun k => if k = kb then some 0 else none) s Hr⟩ → CallJ Try.prog N nx s H 58 [.ptr kb 0, I n] K := fun {r Hr} hm h2 hk => by
    refine CallJ.mut (fun _ => kb) (fun k => if k = kb then some 0 else none) [kb] [] hm ?_ ?_ ?_ ?_ ?_ ?_ h2 ?_ (by simpa [-Bool.exists_bool, -Int.not_le, -Int.not_lt, -getElem?_pos, -List.getD_eq_getElem?_getD] using hk)
    · simp [-Bool.exists_bool, -Int.not_le, -Int.not_lt, -getElem?_pos, -List.getD_eq_getElem?_getD, gk]
    · simp [-Bool.exists_bool, -Int.not_le, -Int.not_lt, -getElem?_pos, -List.getD_eq_getElem?_getD, allKs, allK, cA]
    · rintro k rfl; simp [-Bool.exists_bool, -Int.not_le, -Int.not_lt, -getElem?_pos, -List.getD_eq_getElem?_getD, hH]
    · intro k e h
      simp [-Bool.exists_bool, -Int.not_le, -Int.not_lt, -getElem?_pos, -List.getD_eq_getElem?_getD] at h
      obtain ⟨rfl, rfl⟩ := h
      simp [-Bool.exists_bool, -Int.not_le, -Int.not_lt, -getElem?_pos, -List.getD_eq_getElem?_getD, hH, mapE, allKE, allKs, allK, cA]
    · intro k j h
      simp [-Bool.exists_bool, -Int.not_le, -Int.not_lt, -getElem?_pos, -List.getD_eq_getElem?_getD] at h
      obtain ⟨rfl, rfl⟩ := h
      simp [-Bool.exists_bool, -Int.not_le, -Int.not_lt, -getElem?_pos, -List.getD_eq_getElem?_getD]
    · simp [-Bool.exists_bool, -Int.not_le, -Int.not_lt, -getElem?_pos, -List.getD_eq_getElem?_getD]
    · simp [-Bool.exists_bool, -Int.not_le, -Int.not_lt, -getElem?_pos, -List.getD_eq_getElem?_getD, hH, hnx]
  generalize drA cd n c = y at *
  obtain ⟨⟨r1, r2, r3, r4⟩, c'⟩ := y
  cases r4 with
  | true =>
    have := k1 (r1, r2, r3) rfl
    rw [show dV (r1, r2, r3, true) = .agg [.ref (1, 0) r1.length, I r2, B r3] from rfl, show dH cd (r1, r2, r3, true) c' = hl [((0, 1), cuE cd c'), ((1, 0), rI r1)] from rfl] at hm
    refine base hm ?_ ?_
    · intro k e h
      have h := hl_mem h
      simp [-Bool.exists_bool, -Int.not_le, -Int.not_lt, -getElem?_pos, -List.getD_eq_getElem?_getD] at h
      rcases h with ⟨rfl, rfl⟩ | ⟨rfl, rfl⟩ <;> simp [-Bool.exists_bool, -Int.not_le, -Int.not_lt, -getElem?_pos, -List.getD_eq_getElem?_getD]
    · have e : upMut (fun _ => kb) (fun k => if k = kb then some 0 else none) s (hl [((0, 1), cuE cd c'), ((1, 0), rI r1)]) = up1 (s, 0) (some (rI r1)) (up1 kb (some (cuE cd c')) noUp) := by
        funext k
        unfold upMut up1
        obtain ⟨a', b'⟩ := k
        split
        · rename_i hks
          simp only at hks
          subst hks
          have n1 : (a', b') ≠ kb := fun e => hs (by rw [← e])
          by_cases hb0 : b' = 0
          · subst hb0; simp [-Bool.exists_bool, -Int.not_le, -Int.not_lt, -getElem?_pos, -List.getD_eq_getElem?_getD, mapE]
          · simp [-Bool.exists_bool, -Int.not_le, -Int.not_lt, -getElem?_pos, -List.getD_eq_getElem?_getD, n1, hb0, noUp]
        · rename_i hks
          simp only at hks
          have e0 : ¬ (a', b') = (s, 0) := fun e => hks (by injection e)
          by_cases e1 : (a', b') = kb
          · simp only [if_neg e0, if_pos e1]; simp [-Bool.exists_bool, -Int.not_le, -Int.not_lt, -getElem?_pos, -List.getD_eq_getElem?_getD, mapE]
          · simp only [if_neg e0, if_neg e1]; rfl
      rw [e]
      simpa [-Bool.exists_bool, -Int.not_le, -Int.not_lt, -getElem?_pos, -List.getD_eq_getElem?_getD, gk] using this
  | false =>
    have := k2 rfl
    rw [show dV (r1, r2, r3, false) = .agg [.nil, I 0, B false] from rfl, show dH cd (r1, r2, r3, false) c' = cuH cd c' from rfl] at hm
    refine base hm ?_ ?_
    · intro k e h
      have h := hl_mem h
      simp [-Bool.exists_bool, -Int.not_le, -Int.not_lt, -getElem?_pos, -List.getD_eq_getElem?_getD] at h
      obtain ⟨rfl, rfl⟩ := h
      simp [-Bool.exists_bool, -Int.not_le, -Int.not_lt, -getElem?_pos, -List.getD_eq_getElem?_getD]
    · have e : upMut (fun _ => kb) (fun k => if k = kb then some 0 else none) s (cuH cd c') = up1 kb (some (cuE cd c')) noUp := by
        funext k
        unfold upMut up1
        by_cases h1 : k = kb
        · subst h1
          rw [if_neg hs, if_pos rfl]
          simp [-Bool.exists_bool, -Int.not_le, -Int.not_lt, -getElem?_pos, -List.getD_eq_getElem?_getD, mapE]
        · rw [if_neg h1]
          simp [-Bool.exists_bool, -Int.not_le, -Int.not_lt, -getElem?_pos, -List.getD_eq_getElem?_getD, h1, noUp]
      rw [e]
      simpa [-Bool.exists_bool, -Int.not_le, -Int.not_lt, -getElem?_pos, -List.getD_eq_getElem?_getD, gk] using this
theorem drA_ok (cd : List Int) (n : Nat) (c : Cu) (hn : n ≤ 4) : (drA cd n c).1.2.2.2 = true ∧ (drA cd n c).1.1.length = n := by
  have hb := belowF_bd cd (n := 13) (drL cd n c).2 (by omega)
  have h1 := mkAt_small (l := (drL cd n c).1) (c := (belowF cd 13 (drL cd n c).2).1 - 6) (s := decide ((belowF cd 3 (belowF cd 13 (drL cd n c).2).2).1 = 0)) (by rw [drL_len]; exact hn) (drL_num cd n c) (isNum_iff.2 ⟨by omega, by omega⟩)
  have e : (drA cd n c).1 = mkAt (drL cd n c).1 ((belowF cd 13 (drL cd n c).2).1 - 6) (decide ((belowF cd 3 (belowF cd 13 (drL cd n c).2).2).1 = 0)) := if_pos (by rw [drL_len]; exact hn)
  rw [e]
  exact ⟨h1, by rw [(mkAt_ok h1).2, drL_len]⟩
abbrev at2 (r : At2) : At := (r.1, r.2.1, r.2.2.1)
def us (cd : List Int) (d : Nat) : Nat → List At → Cu → List At × Cu
  | 0, L, c => (L, c)
  | n + 1, L, c => us cd d n (L ++ [at2 (drA cd d c).1]) (drA cd d c).2
def axA (cd : List Int) (d v : Nat) (c : Cu) : At2 × Cu :=
  (mkA ((List.replicate d 0).set v (1 - 2 * (belowF cd 2 c).1)) (-(belowF cd 6 (belowF cd 2 c).2).1) (decide ((belowF cd 3 (belowF cd 6 (belowF cd 2 c).2).2).1 = 0)), (belowF cd 3 (belowF cd 6 (belowF cd 2 c).2).2).2)
def vs (cd : List Int) (d : Nat) : Nat → Nat → List At → Cu → List At × Cu
  | 0, _, L, c => (L, c)
  | k + 1, v, L, c => if (belowF cd 2 c).1 = 0 then vs cd d k (v + 1) (L ++ [at2 (axA cd d v (belowF cd 2 c).2).1]) (axA cd d v (belowF cd 2 c).2).2 else (L, (belowF cd 2 c).2)
def dr3 (cd : List Int) (d : Nat) (c : Cu) : List At × Cu :=
  vs cd d d 0 (us cd d (belowF cd 4 c).1.toNat [] (belowF cd 4 c).2).1 (us cd d (belowF cd 4 c).1.toNat [] (belowF cd 4 c).2).2
def hd1 (k0 : Key) : List At → List V
  | [] => []
  | a :: T => .ref k0 a.1.length :: I a.2.1 :: B a.2.2 :: dl (asD T)
def dS (cd : List Int) (d : Nat) (c : Cu) (n : Nat) (t : Nat) : List At → St
  | [] => ⟨tl [(0, .ptr (0, 1) 0), (1, I d), (4, .ptr (1, 0) 0), (5, .ptr (2, 0) 0), (t, I n)], hl [((0, 1), cuE cd c), ((1, 0), .box [I 0, .nil]), ((2, 0), .box [I d, .nil])], 5⟩
  | a :: T => ⟨tl [(0, .ptr (0, 1) 0), (1, I d), (4, .ptr (1, 0) 0), (5, .ptr (2, 0) 0), (t, I n)], hl [((0, 1), cuE cd c), ((1, 0), .box [I 0, .nil]), ((2, 0), .box [I d, .ref (3, 0) (T.length + 1)]), ((3, 0), .row 51 (T.length + 1) (hd1 (4, 0) (a :: T))), ((4, 0), rI a.1)], 5⟩
def d3V (d : Nat) : List At → V
  | [] => .agg [I d, .nil]
  | a :: T => .agg [I d, .ref (1, 0) (T.length + 1)]
def d3H (cd : List Int) (c : Cu) : List At → Store
  | [] => cuH cd c
  | a :: T => hl [((0, 1), cuE cd c), ((1, 0), .row 51 (T.length + 1) (hd1 (1, 1) (a :: T))), ((1, 1), rI a.1)]
theorem hdq {T : List At} {b : At} : dl (asD (T ++ [b])) = dl (asD T) ++ [V.d (.sl b.1.length (b.1.map (D.int .i64))), I b.2.1, B b.2.2] := by
  unfold dl
  rw [asD_append, List.map_append]
  rfl
theorem l3Draw (cd : List Int) (d : Nat) (c : Cu) (hd : d ≤ 4) (hc : c.1 ≤ cd.length) (h20 : cd.length ≤ 1048576) : Cm Try.prog 35 cA [.ptr (0, 1) 0, I d] (cuH cd c) (d3V d (dr3 cd d c).1) (d3H cd (dr3 cd d c).2 (dr3 cd d c).1) := by
  refine Cm.of [0] mixed Try.func35 rfl Try.call35 (by kernel_rfl) rfl ?_
  simp -implicitDefEqProofs -dsimp +contextual [-Bool.exists_bool, -Int.not_le, -Int.not_lt, -getElem?_pos, -List.getD_eq_getElem?_getD, Try.f35]
  have hb := belowF_bd cd (n := 4) c (by omega)
  have hc1 := belowF_cu cd 4 c hc
  refine callBelow 4 (0, 1) hc h20 (by simp [-Bool.exists_bool, -Int.not_le, -Int.not_lt, -getElem?_pos, -List.getD_eq_getElem?_getD]) (by simp [-Bool.exists_bool, -Int.not_le, -Int.not_lt, -getElem?_pos, -List.getD_eq_getElem?_getD]) (by simp [-Bool.exists_bool, -Int.not_le, -Int.not_lt, -getElem?_pos, -List.getD_eq_getElem?_getD]) ?_
  unfold dr3
  generalize belowF cd 4 c = y at *
  obtain ⟨n0, c1⟩ := y
  simp only at hb hc1 ⊢
  obtain ⟨n0, rfl⟩ : ∃ m : Nat, n0 = m := ⟨n0.toNat, by omega⟩
  simp -implicitDefEqProofs -dsimp +contextual [-Bool.exists_bool, -Int.not_le, -Int.not_lt, -getElem?_pos, -List.getD_eq_getElem?_getD]
  rw [Int.toNat_natCast]
  refine WP.loop mixed [0] (fun p : Nat × List At × Cu => dS cd d p.2.2 p.1 6 p.2.1) (fun p => p.2.2.1 ≤ cd.length ∧ p.1 + p.2.1.length = n0 ∧ us cd d n0 [] c1 = us cd d p.1 p.2.1 p.2.2) (fun p => p.1) (n0, [], c1) (by kernel_rfl) ?_ ?_ ?_
  · refine Le.told [((2, 0), (4, 0))] ?_ ?_ ?_ <;> simp [-Bool.exists_bool, -Int.not_le, -Int.not_lt, -getElem?_pos, -List.getD_eq_getElem?_getD, setH]
  · exact ⟨hc1, rfl, rfl⟩
  · rintro ⟨n, L, c⟩ ⟨hc, hn, he⟩
    simp only at hc hn he
    cases n with
    | zero =>
      rw [us] at he
      rw [he]
      simp only at hn ⊢
      have hL3 : L.length ≤ 3 := by omega
      clear he hn hb hc1
      obtain ⟨L', hL'⟩ : ∃ L', L' = L := ⟨L, rfl⟩
      generalize hR : vs cd d d 0 L c = R
      rw [← hL'] at hR
      cases L
      all_goals
        simp only [dS]
        simp -implicitDefEqProofs -dsimp +contextual [-Bool.exists_bool, -Int.not_le, -Int.not_lt, -getElem?_pos, -List.getD_eq_getElem?_getD]
        refine WP.loop mixed [0] (fun p : Nat × List At × Cu => dS cd d p.2.2 p.1 7 p.2.1) (fun p => p.2.2.1 ≤ cd.length ∧ p.1 ≤ d ∧ p.2.1.length ≤ 3 + p.1 ∧ R = vs cd d (d - p.1) p.1 p.2.1 p.2.2) (fun p => d - p.1) (0, L', c) (by kernel_rfl) ?_ ?_ ?_
        · rw [hL']; refine Le.told [] ?_ ?_ ?_ <;> simp [-Bool.exists_bool, -Int.not_le, -Int.not_lt, -getElem?_pos, -List.getD_eq_getElem?_getD, dS, hd1]
        · exact ⟨hc, Nat.zero_le _, by rw [hL']; simpa [-Bool.exists_bool, -Int.not_le, -Int.not_lt, -getElem?_pos, -List.getD_eq_getElem?_getD] using hL3, hR.symm⟩
        · clear hc hL3 hR hL'
          rintro ⟨v, M, c⟩ ⟨hc, hv, hM', he⟩
          simp only at hc hv hM' he
          have fin : ∀ (c' : Cu) (M : List At), RLm Try.prog cA (setH (1, 0) (some (.box [I d, match M with | [] => V.nil | a :: T => .ref (3, 0) (T.length + 1)])) (dS cd d c' v 7 M).H) (.agg [I d, match M with | [] => V.nil | a :: T => .ref (3, 0) (T.length + 1)]) (d3V d M) (d3H cd c' M) := fun c' M => by
            cases M with
            | nil =>
              simp only [dS, d3V, d3H]
              refine RLm.toldL [] ?_ ?_ ?_ ?_ ?_
              · simp [-Bool.exists_bool, -Int.not_le, -Int.not_lt, -getElem?_pos, -List.getD_eq_getElem?_getD]
              · simp [-Bool.exists_bool, -Int.not_le, -Int.not_lt, -getElem?_pos, -List.getD_eq_getElem?_getD]
              · simp [-Bool.exists_bool, -Int.not_le, -Int.not_lt, -getElem?_pos, -List.getD_eq_getElem?_getD, allKs, allK, okKey]
              · simp [-Bool.exists_bool, -Int.not_le, -Int.not_lt, -getElem?_pos, -List.getD_eq_getElem?_getD, okKey, allKE, allKs, allK, cA, setH]
              · simp [-Bool.exists_bool, -Int.not_le, -Int.not_lt, -getElem?_pos, -List.getD_eq_getElem?_getD]
            | cons a T =>
              simp only [dS, d3V, d3H]
              refine RLm.toldL [((1, 0), (3, 0)), ((1, 1), (4, 0))] ?_ ?_ ?_ ?_ ?_
              · simp [-Bool.exists_bool, -Int.not_le, -Int.not_lt, -getElem?_pos, -List.getD_eq_getElem?_getD]
              · simp [-Bool.exists_bool, -Int.not_le, -Int.not_lt, -getElem?_pos, -List.getD_eq_getElem?_getD]
              · simp [-Bool.exists_bool, -Int.not_le, -Int.not_lt, -getElem?_pos, -List.getD_eq_getElem?_getD, allKs, allK, okKey]
              · simp [-Bool.exists_bool, -Int.not_le, -Int.not_lt, -getElem?_pos, -List.getD_eq_getElem?_getD, okKey, allKE, allKs, allK, cA, setH, hd1]
              · simp [-Bool.exists_bool, -Int.not_le, -Int.not_lt, -getElem?_pos, -List.getD_eq_getElem?_getD]
          have fin2 : ∀ (c0 c' : Cu) (M : List At), RLm Try.prog cA (setH (1, 0) (some (.box [I d, match M with | [] => V.nil | a :: T => .ref (3, 0) (T.length + 1)])) (setH (0, 1) (some (cuE cd c')) (dS cd d c0 v 7 M).H)) (.agg [I d, match M with | [] => V.nil | a :: T => .ref (3, 0) (T.length + 1)]) (d3V d M) (d3H cd c' M) := fun c0 c' M => by
            cases M with
            | nil =>
              simp only [dS, d3V, d3H]
              refine RLm.toldL [] ?_ ?_ ?_ ?_ ?_
              · simp [-Bool.exists_bool, -Int.not_le, -Int.not_lt, -getElem?_pos, -List.getD_eq_getElem?_getD]
              · simp [-Bool.exists_bool, -Int.not_le, -Int.not_lt, -getElem?_pos, -List.getD_eq_getElem?_getD]
              · simp [-Bool.exists_bool, -Int.not_le, -Int.not_lt, -getElem?_pos, -List.getD_eq_getElem?_getD, allKs, allK, okKey]
              · simp [-Bool.exists_bool, -Int.not_le, -Int.not_lt, -getElem?_pos, -List.getD_eq_getElem?_getD, okKey, allKE, allKs, allK, cA, setH]
              · simp [-Bool.exists_bool, -Int.not_le, -Int.not_lt, -getElem?_pos, -List.getD_eq_getElem?_getD]
            | cons a T =>
              simp only [dS, d3V, d3H]
              refine RLm.toldL [((1, 0), (3, 0)), ((1, 1), (4, 0))] ?_ ?_ ?_ ?_ ?_
              · simp [-Bool.exists_bool, -Int.not_le, -Int.not_lt, -getElem?_pos, -List.getD_eq_getElem?_getD]
              · simp [-Bool.exists_bool, -Int.not_le, -Int.not_lt, -getElem?_pos, -List.getD_eq_getElem?_getD]
              · simp [-Bool.exists_bool, -Int.not_le, -Int.not_lt, -getElem?_pos, -List.getD_eq_getElem?_getD, allKs, allK, okKey]
              · simp [-Bool.exists_bool, -Int.not_le, -Int.not_lt, -getElem?_pos, -List.getD_eq_getElem?_getD, okKey, allKE, allKs, allK, cA, setH, hd1]
              · simp [-Bool.exists_bool, -Int.not_le, -Int.not_lt, -getElem?_pos, -List.getD_eq_getElem?_getD]
          by_cases h : v < d
          · obtain ⟨k, hk⟩ : ∃ k, d - v = k + 1 := ⟨d - v - 1, by omega⟩
            rw [hk, vs] at he
            cases M with
            | nil =>
              simp only [dS]
              simp -implicitDefEqProofs -dsimp +contextual [-Bool.exists_bool, -Int.not_le, -Int.not_lt, -getElem?_pos, -List.getD_eq_getElem?_getD, h]
              have hc2 := belowF_cu cd 2 c hc
              refine callOnce 2 (0, 1) hc h20 (by simp [-Bool.exists_bool, -Int.not_le, -Int.not_lt, -getElem?_pos, -List.getD_eq_getElem?_getD]) (by simp [-Bool.exists_bool, -Int.not_le, -Int.not_lt, -getElem?_pos, -List.getD_eq_getElem?_getD]) (by simp [-Bool.exists_bool, -Int.not_le, -Int.not_lt, -getElem?_pos, -List.getD_eq_getElem?_getD]) ?_
              have hb2 := belowF_bd cd (n := 2) (belowF cd 2 c).2 (by omega)
              have hc3 := belowF_cu cd 2 (belowF cd 2 c).2 hc2
              have hb4 := belowF_bd cd (n := 6) (belowF cd 2 (belowF cd 2 c).2).2 (by omega)
              have hc4 := belowF_cu cd 6 (belowF cd 2 (belowF cd 2 c).2).2 hc3
              have hc5 := belowF_cu cd 3 (belowF cd 6 (belowF cd 2 (belowF cd 2 c).2).2).2 hc4
              have hax : axA cd d v (belowF cd 2 c).2 = _ := rfl
              unfold axA at hax he
              generalize belowF cd 2 c = y at *
              obtain ⟨x1, c1⟩ := y
              simp only at hc2 hb2 hc3 hb4 hc4 hc5 he
              simp -implicitDefEqProofs -dsimp +contextual [-Bool.exists_bool, -Int.not_le, -Int.not_lt, -getElem?_pos, -List.getD_eq_getElem?_getD, h]
              refine ⟨fun h0 => ?_, fun h0 => ?_⟩
              · rw [if_pos h0] at he
                refine ⟨⟨by omega, by simp [-Bool.exists_bool, -Int.not_le, -Int.not_lt, -getElem?_pos, -List.getD_eq_getElem?_getD, maxLen]; omega⟩, ?_⟩
                refine callBelow 2 (0, 1) hc2 h20 (by simp [-Bool.exists_bool, -Int.not_le, -Int.not_lt, -getElem?_pos, -List.getD_eq_getElem?_getD, setH]) (by simp [-Bool.exists_bool, -Int.not_le, -Int.not_lt, -getElem?_pos, -List.getD_eq_getElem?_getD]) (by simp [-Bool.exists_bool, -Int.not_le, -Int.not_lt, -getElem?_pos, -List.getD_eq_getElem?_getD]) ?_
                generalize belowF cd 2 c1 = y at *
                obtain ⟨x2, c2⟩ := y
                simp only at hb2 hc3 hb4 hc4 hc5 he
                have h1 : v + 1 ≤ d := h
                have hmin : min v d = v := by omega
                have w1 : IntKind.wrap .i64 (2 * x2) = 2 * x2 := wr (by omega) (by omega)
                have w2 : IntKind.wrap .i64 (1 - 2 * x2) = 1 - 2 * x2 := wr (by omega) (by omega)
                have hU : List.replicate v (D.int IntKind.i64 0) ++ D.int IntKind.i64 (1 - 2 * x2) :: List.replicate (d - (v + 1)) (D.int IntKind.i64 0) = ((List.replicate d 0).set v (1 - 2 * x2)).map (D.int .i64) := by
                  rw [List.map_set, List.map_replicate, List.set_eq_take_append_cons_drop, if_pos (by simp [-Bool.exists_bool, -Int.not_le, -Int.not_lt, -getElem?_pos, -List.getD_eq_getElem?_getD]; exact h)]
                  simp [-Bool.exists_bool, -Int.not_le, -Int.not_lt, -getElem?_pos, -List.getD_eq_getElem?_getD, hmin]
                have hU2 : (List.replicate d (D.int IntKind.i64 0)).set v (D.int IntKind.i64 (1 - 2 * x2)) = ((List.replicate d 0).set v (1 - 2 * x2)).map (D.int .i64) := by rw [List.map_set, List.map_replicate]
                have hlen : ((List.replicate d 0).set v (1 - 2 * x2)).length = d := by simp [-Bool.exists_bool, -Int.not_le, -Int.not_lt, -getElem?_pos, -List.getD_eq_getElem?_getD]
                have hln : ∀ y ∈ (List.replicate d 0).set v (1 - 2 * x2), isNum y = true := fun y hy => by
                  rcases List.mem_or_eq_of_mem_set hy with hy | hy
                  · rw [(List.mem_replicate.1 hy).2]; rfl
                  · exact isNum_iff.2 ⟨by omega, by omega⟩
                simp -implicitDefEqProofs -dsimp +contextual [-Bool.exists_bool, -Int.not_le, -Int.not_lt, -getElem?_pos, -List.getD_eq_getElem?_getD, h, h1, hmin, w1, w2, hU]
                generalize (List.replicate d (0 : Int)).set v (1 - 2 * x2) = cf at *
                refine callBelow 6 (0, 1) hc3 h20 (by simp [-Bool.exists_bool, -Int.not_le, -Int.not_lt, -getElem?_pos, -List.getD_eq_getElem?_getD, setH]) (by simp [-Bool.exists_bool, -Int.not_le, -Int.not_lt, -getElem?_pos, -List.getD_eq_getElem?_getD]) (by simp [-Bool.exists_bool, -Int.not_le, -Int.not_lt, -getElem?_pos, -List.getD_eq_getElem?_getD]) ?_
                generalize belowF cd 6 c2 = y at *
                obtain ⟨x3, c3⟩ := y
                simp only at hb4 hc4 hc5 he
                simp -implicitDefEqProofs -dsimp +contextual [-Bool.exists_bool, -Int.not_le, -Int.not_lt, -getElem?_pos, -List.getD_eq_getElem?_getD, h]
                rw [wr (x := -x3) (by omega) (by omega)]
                refine callOnce 3 (0, 1) hc4 h20 (by simp [-Bool.exists_bool, -Int.not_le, -Int.not_lt, -getElem?_pos, -List.getD_eq_getElem?_getD, setH]) (by simp [-Bool.exists_bool, -Int.not_le, -Int.not_lt, -getElem?_pos, -List.getD_eq_getElem?_getD]) (by simp [-Bool.exists_bool, -Int.not_le, -Int.not_lt, -getElem?_pos, -List.getD_eq_getElem?_getD]) ?_
                generalize belowF cd 3 c3 = y at *
                obtain ⟨x4, c4⟩ := y
                simp only at hc5 he
                simp -implicitDefEqProofs -dsimp +contextual [-Bool.exists_bool, -Int.not_le, -Int.not_lt, -getElem?_pos, -List.getD_eq_getElem?_getD, h]
                have hM := MakeAtomO cf (-x3) (decide (x4 = 0)) (by omega) hln (isNum_iff.2 ⟨by omega, by omega⟩)
                have hok := mkAt_small (s := decide (x4 = 0)) (show cf.length ≤ 4 by omega) hln (isNum_iff.2 ⟨by omega, by omega⟩ : isNum (-x3) = true)
                have hmk : mkA cf (-x3) (decide (x4 = 0)) = mkAt cf (-x3) (decide (x4 = 0)) := if_pos (by omega)
                rw [hmk] at hM he
                have hr1 := (mkAt_ok hok).2
                generalize mkAt cf (-x3) (decide (x4 = 0)) = r at *
                obtain ⟨r1, r2, r3, r4⟩ := r
                obtain rfl : r4 = true := hok
                rw [show oAV (r1, r2, r3, true) = .tup [.agg [.ref (0, 0) r1.length, I r2, B r3], B true] from rfl, show oAH (r1, r2, r3, true) = hl [((0, 0), .row 3 r1.length (dl (r1.map (D.int .i64))))] from rfl] at hM
                refine CallJ.lent (ks := [(13, 0)]) 2 hM (by simp [-Bool.exists_bool, -Int.not_le, -Int.not_lt, -getElem?_pos, -List.getD_eq_getElem?_getD, hlen, hU2]) (by simp [-Bool.exists_bool, -Int.not_le, -Int.not_lt, -getElem?_pos, -List.getD_eq_getElem?_getD]) (by simp [-Bool.exists_bool, -Int.not_le, -Int.not_lt, -getElem?_pos, -List.getD_eq_getElem?_getD, noSh, noShL, noShD]) ?_ ?_
                · intro k e h
                  simp [-Bool.exists_bool, -Int.not_le, -Int.not_lt, -getElem?_pos, -List.getD_eq_getElem?_getD] at h
                  obtain ⟨rfl, rfl⟩ := h
                  simp only [noShE, noShL_all, List.all_eq_true]
                  intro x hx
                  obtain ⟨y, hy, rfl⟩ := List.mem_map.1 hx
                  obtain ⟨z, _, rfl⟩ := List.mem_map.1 hy
                  rfl
                simp -implicitDefEqProofs -dsimp +contextual [-Bool.exists_bool, -Int.not_le, -Int.not_lt, -getElem?_pos, -List.getD_eq_getElem?_getD, h]
                refine ⟨by simp [-Bool.exists_bool, -Int.not_le, -Int.not_lt, -getElem?_pos, -List.getD_eq_getElem?_getD, maxLen], v + 1, [(r1, r2, r3)], c4.1, c4.2, ⟨hc5, h, by simp [-Bool.exists_bool, -Int.not_le, -Int.not_lt, -getElem?_pos, -List.getD_eq_getElem?_getD]; omega, ?_⟩, by omega, ?_⟩
                · rw [show d - (v + 1) = k by omega]; exact he
                · dsimp only
                  rw [wr (x := (v : Int) + 1) (by omega) (by omega)]
                  refine Le.told [((3, 0), (40, 0)), ((4, 0), (29, 0))] ?_ ?_ ?_ <;> simp [-Bool.exists_bool, -Int.not_le, -Int.not_lt, -getElem?_pos, -List.getD_eq_getElem?_getD, hd1, asD]
              · rw [if_neg h0] at he
                rw [he]
                exact fin2 c c1 []
            | cons a T =>
              simp only [dS]
              simp -implicitDefEqProofs -dsimp +contextual [-Bool.exists_bool, -Int.not_le, -Int.not_lt, -getElem?_pos, -List.getD_eq_getElem?_getD, h]
              have hc2 := belowF_cu cd 2 c hc
              refine callOnce 2 (0, 1) hc h20 (by simp [-Bool.exists_bool, -Int.not_le, -Int.not_lt, -getElem?_pos, -List.getD_eq_getElem?_getD]) (by simp [-Bool.exists_bool, -Int.not_le, -Int.not_lt, -getElem?_pos, -List.getD_eq_getElem?_getD]) (by simp [-Bool.exists_bool, -Int.not_le, -Int.not_lt, -getElem?_pos, -List.getD_eq_getElem?_getD]) ?_
              have hb2 := belowF_bd cd (n := 2) (belowF cd 2 c).2 (by omega)
              have hc3 := belowF_cu cd 2 (belowF cd 2 c).2 hc2
              have hb4 := belowF_bd cd (n := 6) (belowF cd 2 (belowF cd 2 c).2).2 (by omega)
              have hc4 := belowF_cu cd 6 (belowF cd 2 (belowF cd 2 c).2).2 hc3
              have hc5 := belowF_cu cd 3 (belowF cd 6 (belowF cd 2 (belowF cd 2 c).2).2).2 hc4
              have hax : axA cd d v (belowF cd 2 c).2 = _ := rfl
              unfold axA at hax he
              generalize belowF cd 2 c = y at *
              obtain ⟨x1, c1⟩ := y
              simp only at hc2 hb2 hc3 hb4 hc4 hc5 he
              simp -implicitDefEqProofs -dsimp +contextual [-Bool.exists_bool, -Int.not_le, -Int.not_lt, -getElem?_pos, -List.getD_eq_getElem?_getD, h]
              refine ⟨fun h0 => ?_, fun h0 => ?_⟩
              · rw [if_pos h0] at he
                refine ⟨⟨by omega, by simp [-Bool.exists_bool, -Int.not_le, -Int.not_lt, -getElem?_pos, -List.getD_eq_getElem?_getD, maxLen]; omega⟩, ?_⟩
                refine callBelow 2 (0, 1) hc2 h20 (by simp [-Bool.exists_bool, -Int.not_le, -Int.not_lt, -getElem?_pos, -List.getD_eq_getElem?_getD, setH]) (by simp [-Bool.exists_bool, -Int.not_le, -Int.not_lt, -getElem?_pos, -List.getD_eq_getElem?_getD]) (by simp [-Bool.exists_bool, -Int.not_le, -Int.not_lt, -getElem?_pos, -List.getD_eq_getElem?_getD]) ?_
                generalize belowF cd 2 c1 = y at *
                obtain ⟨x2, c2⟩ := y
                simp only at hb2 hc3 hb4 hc4 hc5 he
                have h1 : v + 1 ≤ d := h
                have hmin : min v d = v := by omega
                have w1 : IntKind.wrap .i64 (2 * x2) = 2 * x2 := wr (by omega) (by omega)
                have w2 : IntKind.wrap .i64 (1 - 2 * x2) = 1 - 2 * x2 := wr (by omega) (by omega)
                have hU : List.replicate v (D.int IntKind.i64 0) ++ D.int IntKind.i64 (1 - 2 * x2) :: List.replicate (d - (v + 1)) (D.int IntKind.i64 0) = ((List.replicate d 0).set v (1 - 2 * x2)).map (D.int .i64) := by
                  rw [List.map_set, List.map_replicate, List.set_eq_take_append_cons_drop, if_pos (by simp [-Bool.exists_bool, -Int.not_le, -Int.not_lt, -getElem?_pos, -List.getD_eq_getElem?_getD]; exact h)]
                  simp [-Bool.exists_bool, -Int.not_le, -Int.not_lt, -getElem?_pos, -List.getD_eq_getElem?_getD, hmin]
                have hU2 : (List.replicate d (D.int IntKind.i64 0)).set v (D.int IntKind.i64 (1 - 2 * x2)) = ((List.replicate d 0).set v (1 - 2 * x2)).map (D.int .i64) := by rw [List.map_set, List.map_replicate]
                have hlen : ((List.replicate d 0).set v (1 - 2 * x2)).length = d := by simp [-Bool.exists_bool, -Int.not_le, -Int.not_lt, -getElem?_pos, -List.getD_eq_getElem?_getD]
                have hln : ∀ y ∈ (List.replicate d 0).set v (1 - 2 * x2), isNum y = true := fun y hy => by
                  rcases List.mem_or_eq_of_mem_set hy with hy | hy
                  · rw [(List.mem_replicate.1 hy).2]; rfl
                  · exact isNum_iff.2 ⟨by omega, by omega⟩
                simp -implicitDefEqProofs -dsimp +contextual [-Bool.exists_bool, -Int.not_le, -Int.not_lt, -getElem?_pos, -List.getD_eq_getElem?_getD, h, h1, hmin, w1, w2, hU]
                generalize (List.replicate d (0 : Int)).set v (1 - 2 * x2) = cf at *
                refine callBelow 6 (0, 1) hc3 h20 (by simp [-Bool.exists_bool, -Int.not_le, -Int.not_lt, -getElem?_pos, -List.getD_eq_getElem?_getD, setH]) (by simp [-Bool.exists_bool, -Int.not_le, -Int.not_lt, -getElem?_pos, -List.getD_eq_getElem?_getD]) (by simp [-Bool.exists_bool, -Int.not_le, -Int.not_lt, -getElem?_pos, -List.getD_eq_getElem?_getD]) ?_
                generalize belowF cd 6 c2 = y at *
                obtain ⟨x3, c3⟩ := y
                simp only at hb4 hc4 hc5 he
                simp -implicitDefEqProofs -dsimp +contextual [-Bool.exists_bool, -Int.not_le, -Int.not_lt, -getElem?_pos, -List.getD_eq_getElem?_getD, h]
                rw [wr (x := -x3) (by omega) (by omega)]
                refine callOnce 3 (0, 1) hc4 h20 (by simp [-Bool.exists_bool, -Int.not_le, -Int.not_lt, -getElem?_pos, -List.getD_eq_getElem?_getD, setH]) (by simp [-Bool.exists_bool, -Int.not_le, -Int.not_lt, -getElem?_pos, -List.getD_eq_getElem?_getD]) (by simp [-Bool.exists_bool, -Int.not_le, -Int.not_lt, -getElem?_pos, -List.getD_eq_getElem?_getD]) ?_
                generalize belowF cd 3 c3 = y at *
                obtain ⟨x4, c4⟩ := y
                simp only at hc5 he
                simp -implicitDefEqProofs -dsimp +contextual [-Bool.exists_bool, -Int.not_le, -Int.not_lt, -getElem?_pos, -List.getD_eq_getElem?_getD, h]
                have hM := MakeAtomO cf (-x3) (decide (x4 = 0)) (by omega) hln (isNum_iff.2 ⟨by omega, by omega⟩)
                have hok := mkAt_small (s := decide (x4 = 0)) (show cf.length ≤ 4 by omega) hln (isNum_iff.2 ⟨by omega, by omega⟩ : isNum (-x3) = true)
                have hmk : mkA cf (-x3) (decide (x4 = 0)) = mkAt cf (-x3) (decide (x4 = 0)) := if_pos (by omega)
                rw [hmk] at hM he
                have hr1 := (mkAt_ok hok).2
                generalize mkAt cf (-x3) (decide (x4 = 0)) = r at *
                obtain ⟨r1, r2, r3, r4⟩ := r
                obtain rfl : r4 = true := hok
                rw [show oAV (r1, r2, r3, true) = .tup [.agg [.ref (0, 0) r1.length, I r2, B r3], B true] from rfl, show oAH (r1, r2, r3, true) = hl [((0, 0), .row 3 r1.length (dl (r1.map (D.int .i64))))] from rfl] at hM
                refine CallJ.lent (ks := [(13, 0)]) 2 hM (by simp [-Bool.exists_bool, -Int.not_le, -Int.not_lt, -getElem?_pos, -List.getD_eq_getElem?_getD, hlen, hU2]) (by simp [-Bool.exists_bool, -Int.not_le, -Int.not_lt, -getElem?_pos, -List.getD_eq_getElem?_getD]) (by simp [-Bool.exists_bool, -Int.not_le, -Int.not_lt, -getElem?_pos, -List.getD_eq_getElem?_getD, noSh, noShL, noShD]) ?_ ?_
                · intro k e h
                  simp [-Bool.exists_bool, -Int.not_le, -Int.not_lt, -getElem?_pos, -List.getD_eq_getElem?_getD] at h
                  obtain ⟨rfl, rfl⟩ := h
                  simp only [noShE, noShL_all, List.all_eq_true]
                  intro x hx
                  obtain ⟨y, hy, rfl⟩ := List.mem_map.1 hx
                  obtain ⟨z, _, rfl⟩ := List.mem_map.1 hy
                  rfl
                simp -implicitDefEqProofs -dsimp +contextual [-Bool.exists_bool, -Int.not_le, -Int.not_lt, -getElem?_pos, -List.getD_eq_getElem?_getD, h]
                simp only [List.length_cons] at hM'
                refine ⟨⟨by omega, by simp [-Bool.exists_bool, -Int.not_le, -Int.not_lt, -getElem?_pos, -List.getD_eq_getElem?_getD, maxLen]; omega⟩, v + 1, (a :: T) ++ [(r1, r2, r3)], c4.1, c4.2, ⟨hc5, h, by simp [-Bool.exists_bool, -Int.not_le, -Int.not_lt, -getElem?_pos, -List.getD_eq_getElem?_getD]; omega, ?_⟩, by omega, ?_⟩
                · rw [show d - (v + 1) = k by omega]; exact he
                · dsimp only [List.cons_append]
                  rw [wr (x := (v : Int) + 1) (by omega) (by omega)]
                  refine Le.trans (S' := ⟨tl [(0, .ptr (0, 1) 0), (1, I d), (4, .ptr (1, 0) 0), (5, .ptr (2, 0) 0), (7, I ((v : Int) + 1))], hl [((0, 1), cuE cd (c4.1, c4.2)), ((1, 0), .box [I 0, .nil]), ((2, 0), .box [I d, .ref (3, 0) (T.length + 1 + 1)]), ((3, 0), .row 51 (T.length + 1 + 1) (.ref (4, 0) a.1.length :: I a.2.1 :: B a.2.2 :: (dl (asD T) ++ [.ref (5, 0) r1.length, I r2, B r3]))), ((4, 0), rI a.1), ((5, 0), .fz r1.length (r1.map (D.int .i64)))], 6⟩) (Le.told [((3, 0), (40, 0)), ((5, 0), (29, 0))] ?_ ?_ ?_) (Le.told [] ?_ ?_ ?_)
                  all_goals simp [-Bool.exists_bool, -Int.not_le, -Int.not_lt, -getElem?_pos, -List.getD_eq_getElem?_getD, hd1]
                  · exact VLes_app (VLes_refl_d _ _ _ _) (by simp [-Bool.exists_bool, -Int.not_le, -Int.not_lt, -getElem?_pos, -List.getD_eq_getElem?_getD, VLes, VLe])
                  · rw [hdq]
                    exact VLes_app (VLes_refl_d _ _ _ _) (by simp [-Bool.exists_bool, -Int.not_le, -Int.not_lt, -getElem?_pos, -List.getD_eq_getElem?_getD, VLes, VLe, asDz])
              · rw [if_neg h0] at he
                rw [he]
                exact fin2 c c1 (a :: T)
          · rw [show d - v = 0 by omega, vs] at he
            rw [he]
            cases M with
            | nil =>
              simp only [dS]
              simp -implicitDefEqProofs -dsimp +contextual [-Bool.exists_bool, -Int.not_le, -Int.not_lt, -getElem?_pos, -List.getD_eq_getElem?_getD, h]
              exact fin c []
            | cons a T =>
              simp only [dS]
              simp -implicitDefEqProofs -dsimp +contextual [-Bool.exists_bool, -Int.not_le, -Int.not_lt, -getElem?_pos, -List.getD_eq_getElem?_getD, h]
              exact fin c (a :: T)
    | succ n =>
      rw [us] at he
      have hok := drA_ok cd d c hd
      have hcu := drA_cu cd d c hc
      have hL6 : L.length ≤ 4 := by omega
      cases L with
      | nil =>
        simp only [dS]
        simp -implicitDefEqProofs -dsimp +contextual [-Bool.exists_bool, -Int.not_le, -Int.not_lt, -getElem?_pos, -List.getD_eq_getElem?_getD]
        refine callDraw d (0, 1) (by omega) hc h20 (by simp [-Bool.exists_bool, -Int.not_le, -Int.not_lt, -getElem?_pos, -List.getD_eq_getElem?_getD]) (by simp [-Bool.exists_bool, -Int.not_le, -Int.not_lt, -getElem?_pos, -List.getD_eq_getElem?_getD]) (by simp [-Bool.exists_bool, -Int.not_le, -Int.not_lt, -getElem?_pos, -List.getD_eq_getElem?_getD]) (fun b hr => ?_) (fun hr => by rw [hok.1] at hr; cases hr)
        generalize drA cd d c = y at *
        obtain ⟨r, c'⟩ := y
        simp only at hr he hcu
        subst hr
        simp -implicitDefEqProofs -dsimp +contextual [-Bool.exists_bool, -Int.not_le, -Int.not_lt, -getElem?_pos, -List.getD_eq_getElem?_getD]
        refine ⟨Quiet.of [5] (by kernel_rfl) (by simp [-Bool.exists_bool, -Int.not_le, -Int.not_lt, -getElem?_pos, -List.getD_eq_getElem?_getD, allP, offB]), by simp [-Bool.exists_bool, -Int.not_le, -Int.not_lt, -getElem?_pos, -List.getD_eq_getElem?_getD, maxLen], Quiet.of [] (by kernel_rfl) (by simp [-Bool.exists_bool, -Int.not_le, -Int.not_lt, -getElem?_pos, -List.getD_eq_getElem?_getD, allP, offB]), n, [b], c'.1, c'.2, ⟨hcu, by simp [-Bool.exists_bool, -Int.not_le, -Int.not_lt, -getElem?_pos, -List.getD_eq_getElem?_getD] at hn ⊢; omega, he⟩, by omega, ?_⟩
        dsimp only
        rw [wr (x := (n : Int)) (by omega) (by omega)]
        refine Le.told [((3, 0), (13, 0)), ((4, 0), (11, 0))] ?_ ?_ ?_ <;> simp [-Bool.exists_bool, -Int.not_le, -Int.not_lt, -getElem?_pos, -List.getD_eq_getElem?_getD, hd1, asD]
      | cons a T =>
        simp only [dS]
        simp -implicitDefEqProofs -dsimp +contextual [-Bool.exists_bool, -Int.not_le, -Int.not_lt, -getElem?_pos, -List.getD_eq_getElem?_getD]
        refine callDraw d (0, 1) (by omega) hc h20 (by simp [-Bool.exists_bool, -Int.not_le, -Int.not_lt, -getElem?_pos, -List.getD_eq_getElem?_getD]) (by simp [-Bool.exists_bool, -Int.not_le, -Int.not_lt, -getElem?_pos, -List.getD_eq_getElem?_getD]) (by simp [-Bool.exists_bool, -Int.not_le, -Int.not_lt, -getElem?_pos, -List.getD_eq_getElem?_getD]) (fun b hr => ?_) (fun hr => by rw [hok.1] at hr; cases hr)
        generalize drA cd d c = y at *
        obtain ⟨r, c'⟩ := y
        simp only at hr he hcu
        subst hr
        simp -implicitDefEqProofs -dsimp +contextual [-Bool.exists_bool, -Int.not_le, -Int.not_lt, -getElem?_pos, -List.getD_eq_getElem?_getD, hd1]
        refine ⟨Quiet.of [5] (by kernel_rfl) (by simp [-Bool.exists_bool, -Int.not_le, -Int.not_lt, -getElem?_pos, -List.getD_eq_getElem?_getD, allP, offB]), ⟨by simp [-Bool.exists_bool, -Int.not_le, -Int.not_lt, -getElem?_pos, -List.getD_eq_getElem?_getD] at hL6; omega, by simp [-Bool.exists_bool, -Int.not_le, -Int.not_lt, -getElem?_pos, -List.getD_eq_getElem?_getD, maxLen]; simp [-Bool.exists_bool, -Int.not_le, -Int.not_lt, -getElem?_pos, -List.getD_eq_getElem?_getD] at hL6; omega⟩, Quiet.of [] (by kernel_rfl) (by simp [-Bool.exists_bool, -Int.not_le, -Int.not_lt, -getElem?_pos, -List.getD_eq_getElem?_getD, allP, offB]), Quiet.of [] (by kernel_rfl) (by simp [-Bool.exists_bool, -Int.not_le, -Int.not_lt, -getElem?_pos, -List.getD_eq_getElem?_getD, allP, offB]), n, (a :: T) ++ [b], c'.1, c'.2, ⟨hcu, by simp [-Bool.exists_bool, -Int.not_le, -Int.not_lt, -getElem?_pos, -List.getD_eq_getElem?_getD] at hn ⊢; omega, he⟩, by omega, ?_⟩
        dsimp only [List.cons_append]
        rw [wr (x := (n : Int)) (by omega) (by omega)]
        refine Le.trans (S' := ⟨tl [(0, .ptr (0, 1) 0), (1, I d), (4, .ptr (1, 0) 0), (5, .ptr (2, 0) 0), (6, I n)], hl [((0, 1), cuE cd (c'.1, c'.2)), ((1, 0), .box [I 0, .nil]), ((2, 0), .box [I d, .ref (3, 0) (T.length + 1 + 1)]), ((3, 0), .row 51 (T.length + 1 + 1) (.ref (4, 0) a.1.length :: I a.2.1 :: B a.2.2 :: (dl (asD T) ++ [.ref (5, 0) b.1.length, I b.2.1, B b.2.2]))), ((4, 0), rI a.1), ((5, 0), .fz b.1.length (b.1.map (D.int .i64)))], 6⟩) (Le.told [((3, 0), (13, 0)), ((5, 0), (11, 0))] ?_ ?_ ?_) (Le.told [] ?_ ?_ ?_)
        all_goals simp [-Bool.exists_bool, -Int.not_le, -Int.not_lt, -getElem?_pos, -List.getD_eq_getElem?_getD, hd1]
        · exact VLes_app (VLes_refl_d _ _ _ _) (by simp [-Bool.exists_bool, -Int.not_le, -Int.not_lt, -getElem?_pos, -List.getD_eq_getElem?_getD, VLes, VLe])
        · rw [hdq]
          exact VLes_app (VLes_refl_d _ _ _ _) (by simp [-Bool.exists_bool, -Int.not_le, -Int.not_lt, -getElem?_pos, -List.getD_eq_getElem?_getD, VLes, VLe, asDz])
end Go.Proofs.Ytjknjekemolndaa.ZL
namespace Go.Proofs.Ytjknjekemolndaa.ZL
open Go Go.Proofs.Ytjknjekemolndaa.Abs Go.Proofs.Ytjknjekemolndaa.Abs.Pl Go.RowKit Go.Proofs
set_option linter.unusedVariables false
set_option linter.unusedSimpArgs false
set_option linter.unnecessarySimpa false
set_option maxRecDepth 100000
theorem asDn : asD [] = [] := rfl
theorem asDc (a : At) (T : List At) : asD (a :: T) = D.sl a.1.length (a.1.map (D.int .i64)) :: D.int .i64 a.2.1 :: D.bool a.2.2 :: asD T := rfl
theorem asDa (T : List At) (a : At) : dl (asD (T ++ [a])) = dl (asD T) ++ [V.d (D.sl a.1.length (a.1.map (D.int .i64))), V.d (D.int .i64 a.2.1), V.d (D.bool a.2.2)] := hdq
def tA (k : Key) : Prop := k = (0, 1) ∨ k = (0, 2) ∨ k = (0, 3)
def sp3 (cd : List Int) (d : Int) (L : List At) (c : Cu) : (Int × List At) × Cu :=
  if (belowF cd 40 c).1 = 0 then (((pickF cd [-1, 5, IntKind.wrap .i64 (d + 1)] (belowF cd 40 c).2).1, L), (pickF cd [-1, 5, IntKind.wrap .i64 (d + 1)] (belowF cd 40 c).2).2)
  else if (belowF cd 40 c).1 = 1 then (match L with
    | [] => ((d, []), (belowF cd 40 c).2)
    | a :: T => ((d, (spA cd a (belowF cd 40 c).2).1 :: T), (spA cd a (belowF cd 40 c).2).2))
  else if (belowF cd 40 c).1 = 2 then (match L with
    | [] => ((d, []), (belowF cd 40 c).2)
    | a :: T => ((d, a :: T ++ List.replicate (16 - T.length) a), (belowF cd 40 c).2))
  else ((d, L), (belowF cd 40 c).2)
abbrev tH (cd : List Int) (c : Cu) (a : At) (T : List At) : Store := hl [((0, 1), cuE cd c), ((0, 2), .row 51 (T.length + 1) (hd1 (0, 3) (a :: T))), ((0, 3), rI a.1)]
theorem l3SpoilN (cd : List Int) (c : Cu) (d : Int) (hc : c.1 ≤ cd.length) (h20 : cd.length ≤ 1048576) : Cm Try.prog 34 cA [.ptr (0, 1) 0, .agg [I d, .nil]] (cuH cd c) (C1 (sp3 cd d [] c).1.1 (sp3 cd d [] c).1.2) (cuH cd (sp3 cd d [] c).2) := by
  refine Cm.of [0] mixed Try.func34 rfl Try.call34 (by kernel_rfl) rfl ?_
  simp -implicitDefEqProofs -dsimp +contextual [-Bool.exists_bool, -Int.not_le, -Int.not_lt, -getElem?_pos, -List.getD_eq_getElem?_getD, Try.f34]
  have hc1 := belowF_cu cd 40 c hc
  refine callBelow 40 (0, 1) hc h20 (by simp [-Bool.exists_bool, -Int.not_le, -Int.not_lt, -getElem?_pos, -List.getD_eq_getElem?_getD]) (by simp [-Bool.exists_bool, -Int.not_le, -Int.not_lt, -getElem?_pos, -List.getD_eq_getElem?_getD]) (by simp [-Bool.exists_bool, -Int.not_le, -Int.not_lt, -getElem?_pos, -List.getD_eq_getElem?_getD]) ?_
  unfold sp3
  generalize belowF cd 40 c = y at *
  obtain ⟨x, c1⟩ := y
  simp only at hc1 ⊢
  simp -implicitDefEqProofs -dsimp +contextual [-Bool.exists_bool, -Int.not_le, -Int.not_lt, -getElem?_pos, -List.getD_eq_getElem?_getD]
  refine ⟨fun h0 => ?_, fun h0 => ⟨fun h1 => ?_, fun h1 => ⟨fun h2 => ?_, fun h2 => ?_⟩⟩⟩
  · refine callPick [-1, 5, IntKind.wrap .i64 (d + 1)] (0, 1) (by simp [-Bool.exists_bool, -Int.not_le, -Int.not_lt, -getElem?_pos, -List.getD_eq_getElem?_getD]) hc1 h20 (by simp [-Bool.exists_bool, -Int.not_le, -Int.not_lt, -getElem?_pos, -List.getD_eq_getElem?_getD, setH]) (by simp [-Bool.exists_bool, -Int.not_le, -Int.not_lt, -getElem?_pos, -List.getD_eq_getElem?_getD]) (by simp [-Bool.exists_bool, -Int.not_le, -Int.not_lt, -getElem?_pos, -List.getD_eq_getElem?_getD]) ?_
    rw [if_pos h0]
    simp -implicitDefEqProofs -dsimp +contextual [-Bool.exists_bool, -Int.not_le, -Int.not_lt, -getElem?_pos, -List.getD_eq_getElem?_getD]
    refine RLm.frzC [] 2 ?_ rfl ?_ ?_
    all_goals simp [-Bool.exists_bool, -Int.not_le, -Int.not_lt, -getElem?_pos, -List.getD_eq_getElem?_getD, setH, asDn]
  · refine RLm.frzC [] 2 ?_ rfl ?_ ?_
    all_goals simp [-Bool.exists_bool, -Int.not_le, -Int.not_lt, -getElem?_pos, -List.getD_eq_getElem?_getD, setH, asDn]
  · refine WP.loop mixed [0] (fun i : Nat => ⟨tl [(3, .ptr (1, 0) 0), (4, .ptr (2, 0) 0)], hl [((0, 1), cuE cd c1), ((1, 0), .box [I d, .nil]), ((2, 0), .box [I 0, .nil])], 3⟩) (fun i => i ≤ 0) (fun i => 0 - i) 0 (by kernel_rfl) ?_ ?_ ?_
    · refine Le.told [] ?_ ?_ ?_ <;> simp [-Bool.exists_bool, -Int.not_le, -Int.not_lt, -getElem?_pos, -List.getD_eq_getElem?_getD, setH]
    · simp [-Bool.exists_bool, -Int.not_le, -Int.not_lt, -getElem?_pos, -List.getD_eq_getElem?_getD]
    · intro i hi
      simp -implicitDefEqProofs -dsimp +contextual [-Bool.exists_bool, -Int.not_le, -Int.not_lt, -getElem?_pos, -List.getD_eq_getElem?_getD]
      refine RLm.frzC [] 2 ?_ rfl ?_ ?_
      all_goals simp [-Bool.exists_bool, -Int.not_le, -Int.not_lt, -getElem?_pos, -List.getD_eq_getElem?_getD, setH, h0, h2, asDn]
  · refine RLm.frzC [] 2 ?_ rfl ?_ ?_
    all_goals simp [-Bool.exists_bool, -Int.not_le, -Int.not_lt, -getElem?_pos, -List.getD_eq_getElem?_getD, setH, asDn]
theorem l3SpoilC (cd : List Int) (c : Cu) (d : Int) (a : At) (T : List At) (hT : T.length ≤ 15) (ha : a.1.length ≤ 1048576) (hc : c.1 ≤ cd.length) (h20 : cd.length ≤ 1048576) : Cm Try.prog 34 tA [.ptr (0, 1) 0, .agg [I d, .ref (0, 2) (T.length + 1)]] (tH cd c a T) (C1 (sp3 cd d (a :: T) c).1.1 (sp3 cd d (a :: T) c).1.2) (cuH cd (sp3 cd d (a :: T) c).2) := by
  refine Cm.of [0] mixed Try.func34 rfl Try.call34 (by kernel_rfl) rfl ?_
  simp -implicitDefEqProofs -dsimp +contextual [-Bool.exists_bool, -Int.not_le, -Int.not_lt, -getElem?_pos, -List.getD_eq_getElem?_getD, Try.f34]
  have hc1 := belowF_cu cd 40 c hc
  refine callBelow 40 (0, 1) hc h20 (by simp [-Bool.exists_bool, -Int.not_le, -Int.not_lt, -getElem?_pos, -List.getD_eq_getElem?_getD]) (by simp [-Bool.exists_bool, -Int.not_le, -Int.not_lt, -getElem?_pos, -List.getD_eq_getElem?_getD]) (by simp [-Bool.exists_bool, -Int.not_le, -Int.not_lt, -getElem?_pos, -List.getD_eq_getElem?_getD]) ?_
  unfold sp3
  generalize belowF cd 40 c = y at *
  obtain ⟨x, c1⟩ := y
  simp only at hc1 ⊢
  simp -implicitDefEqProofs -dsimp +contextual [-Bool.exists_bool, -Int.not_le, -Int.not_lt, -getElem?_pos, -List.getD_eq_getElem?_getD, hd1]
  refine ⟨fun h0 => ?_, fun h0 => ⟨fun h1 => ?_, fun h1 => ⟨fun h2 => ?_, fun h2 => ?_⟩⟩⟩
  · refine callPick [-1, 5, IntKind.wrap .i64 (d + 1)] (0, 1) (by simp [-Bool.exists_bool, -Int.not_le, -Int.not_lt, -getElem?_pos, -List.getD_eq_getElem?_getD]) hc1 h20 (by simp [-Bool.exists_bool, -Int.not_le, -Int.not_lt, -getElem?_pos, -List.getD_eq_getElem?_getD, setH]) (by simp [-Bool.exists_bool, -Int.not_le, -Int.not_lt, -getElem?_pos, -List.getD_eq_getElem?_getD]) (by simp [-Bool.exists_bool, -Int.not_le, -Int.not_lt, -getElem?_pos, -List.getD_eq_getElem?_getD]) ?_
    rw [if_pos h0]
    simp -implicitDefEqProofs -dsimp +contextual [-Bool.exists_bool, -Int.not_le, -Int.not_lt, -getElem?_pos, -List.getD_eq_getElem?_getD]
    refine RLm.frzC [(0, 2), (0, 3)] 3 ?_ (.inl rfl) ?_ ?_
    all_goals simp [-Bool.exists_bool, -Int.not_le, -Int.not_lt, -getElem?_pos, -List.getD_eq_getElem?_getD, setH, hd1, asDc]
  · have hcs := spA_cu cd a c1 hc1
    refine callSpoil (0, 1) (0, 3) a ha hc1 h20 (by simp [-Bool.exists_bool, -Int.not_le, -Int.not_lt, -getElem?_pos, -List.getD_eq_getElem?_getD, setH]) (by simp [-Bool.exists_bool, -Int.not_le, -Int.not_lt, -getElem?_pos, -List.getD_eq_getElem?_getD, setH]) (by simp [-Bool.exists_bool, -Int.not_le, -Int.not_lt, -getElem?_pos, -List.getD_eq_getElem?_getD]) (by simp [-Bool.exists_bool, -Int.not_le, -Int.not_lt, -getElem?_pos, -List.getD_eq_getElem?_getD]) (by simp [-Bool.exists_bool, -Int.not_le, -Int.not_lt, -getElem?_pos, -List.getD_eq_getElem?_getD]) (fun hx => ?_) (fun hx => ?_)
    · simp -implicitDefEqProofs -dsimp +contextual [-Bool.exists_bool, -Int.not_le, -Int.not_lt, -getElem?_pos, -List.getD_eq_getElem?_getD, hd1]
      refine ⟨Quiet.of [3] (by kernel_rfl) (by simp [-Bool.exists_bool, -Int.not_le, -Int.not_lt, -getElem?_pos, -List.getD_eq_getElem?_getD, allP, offB]), Quiet.of [] (by kernel_rfl) (by simp [-Bool.exists_bool, -Int.not_le, -Int.not_lt, -getElem?_pos, -List.getD_eq_getElem?_getD, allP, offB]), ?_⟩
      refine RLm.frzC [(0, 2), (0, 3)] 3 ?_ (.inl rfl) ?_ ?_
      all_goals simp [-Bool.exists_bool, -Int.not_le, -Int.not_lt, -getElem?_pos, -List.getD_eq_getElem?_getD, setH, hd1, asDc, h0, h1]
    · simp -implicitDefEqProofs -dsimp +contextual [-Bool.exists_bool, -Int.not_le, -Int.not_lt, -getElem?_pos, -List.getD_eq_getElem?_getD, hd1]
      refine ⟨Quiet.of [3] (by kernel_rfl) (by simp [-Bool.exists_bool, -Int.not_le, -Int.not_lt, -getElem?_pos, -List.getD_eq_getElem?_getD, allP, offB]), Quiet.of [] (by kernel_rfl) (by simp [-Bool.exists_bool, -Int.not_le, -Int.not_lt, -getElem?_pos, -List.getD_eq_getElem?_getD, allP, offB]), ?_⟩
      refine RLm.frzC [(0, 2), (20, 0)] 3 ?_ (.inl rfl) ?_ ?_
      all_goals simp [-Bool.exists_bool, -Int.not_le, -Int.not_lt, -getElem?_pos, -List.getD_eq_getElem?_getD, setH, hd1, asDc, h0, h1]
  · refine WP.loop mixed [0] (fun j : Nat => ⟨tl [(0, .ptr (0, 1) 0), (3, .ptr (1, 0) 0), (4, .ptr (2, 0) 0)], hl [((0, 1), cuE cd c1), ((1, 0), .box [I d, .ref (3, 0) (T.length + 1 + j)]), ((2, 0), .box [I 0, .nil]), ((3, 0), .row 51 (T.length + 1 + j) (dl (asD (a :: T ++ List.replicate j a))))], 4⟩) (fun j => T.length + j ≤ 16) (fun j => 16 - T.length - j) 0 (by kernel_rfl) ?_ ?_ ?_
    · refine Le.trans (S' := ⟨tl [(0, .ptr (0, 1) 0), (3, .ptr (1, 0) 0), (4, .ptr (2, 0) 0)], hl [((0, 1), cuE cd c1), ((1, 0), .box [I d, .ref (3, 0) (T.length + 1)]), ((2, 0), .box [I 0, .nil]), ((3, 0), .row 51 (T.length + 1) (hd1 (3, 1) (a :: T))), ((3, 1), .fz a.1.length (a.1.map (D.int .i64)))], 4⟩) (Le.told [((3, 0), (0, 2)), ((3, 1), (0, 3))] ?_ ?_ ?_) (Le.told [] ?_ ?_ ?_)
      all_goals simp [-Bool.exists_bool, -Int.not_le, -Int.not_lt, -getElem?_pos, -List.getD_eq_getElem?_getD, setH, hd1, asDc]
      exact VLes_app (a := [.ref (3, 1) a.1.length, I a.2.1, B a.2.2]) (c := [V.d (D.sl a.1.length (a.1.map (D.int .i64))), V.d (D.int .i64 a.2.1), V.d (D.bool a.2.2)]) (by simp [-Bool.exists_bool, -Int.not_le, -Int.not_lt, -getElem?_pos, -List.getD_eq_getElem?_getD, VLes, VLe, asDz]) (VLes_refl_d _ _ _ _)
    · simp [-Bool.exists_bool, -Int.not_le, -Int.not_lt, -getElem?_pos, -List.getD_eq_getElem?_getD]; omega
    · intro j hj
      have hM : (a :: T ++ List.replicate j a).length = T.length + 1 + j := by simp [-Bool.exists_bool, -Int.not_le, -Int.not_lt, -getElem?_pos, -List.getD_eq_getElem?_getD]; omega
      have hn0 : nth (a :: T ++ List.replicate j a) 0 = a := rfl
      have hp : (0 < (T.length : Int) + 1 + j) = True := by simp [-Bool.exists_bool, -Int.not_le, -Int.not_lt, -getElem?_pos, -List.getD_eq_getElem?_getD]; omega
      have htk : List.take 3 (asD (a :: (T ++ List.replicate j a))) = aD a := rfl
      have hm3 : min 3 ((T.length + j + 1) * 3) = 3 := by omega
      by_cases h : T.length + j < 16
      · have hlt : ((T.length : Int) + 1 + j ≤ 16) = True := by simp [-Bool.exists_bool, -Int.not_le, -Int.not_lt, -getElem?_pos, -List.getD_eq_getElem?_getD]; omega
        have hrep : asD (a :: (T ++ List.replicate (j + 1) a)) = asD (a :: (T ++ List.replicate j a)) ++ aD a := by
          rw [List.replicate_succ', ← List.append_assoc, ← List.cons_append, asD_append]
          rfl
        simp -implicitDefEqProofs -dsimp +contextual [-Bool.exists_bool, -Int.not_le, -Int.not_lt, -getElem?_pos, -List.getD_eq_getElem?_getD, hlt, hp, htk, hm3]
        refine ⟨by omega, ⟨by omega, by simp [-Bool.exists_bool, -Int.not_le, -Int.not_lt, -getElem?_pos, -List.getD_eq_getElem?_getD, maxLen]; omega⟩, Quiet.of [] (by kernel_rfl) (by simp [-Bool.exists_bool, -Int.not_le, -Int.not_lt, -getElem?_pos, -List.getD_eq_getElem?_getD, allP, offB]), Quiet.of [] (by kernel_rfl) (by simp [-Bool.exists_bool, -Int.not_le, -Int.not_lt, -getElem?_pos, -List.getD_eq_getElem?_getD, allP, offB]), j + 1, by omega, by omega, ?_⟩
        refine Le.told [((3, 0), (21, 0))] ?_ ?_ ?_ <;> simp [-Bool.exists_bool, -Int.not_le, -Int.not_lt, -getElem?_pos, -List.getD_eq_getElem?_getD, hrep]
        exact ⟨by omega, rfl⟩
      · have hlt : ((T.length : Int) + 1 + j ≤ 16) = False := by simp [-Bool.exists_bool, -Int.not_le, -Int.not_lt, -getElem?_pos, -List.getD_eq_getElem?_getD]; omega
        simp -implicitDefEqProofs -dsimp +contextual [-Bool.exists_bool, -Int.not_le, -Int.not_lt, -getElem?_pos, -List.getD_eq_getElem?_getD, hlt, hp]
        have e : j = 16 - T.length := by omega
        refine RLm.frzC [(3, 0)] 3 ?_ (.inl rfl) ?_ ?_
        all_goals simp [-Bool.exists_bool, -Int.not_le, -Int.not_lt, -getElem?_pos, -List.getD_eq_getElem?_getD, setH, h0, h2, e]
        omega
  · refine RLm.frzC [(0, 2), (0, 3)] 3 ?_ (.inl rfl) ?_ ?_
    all_goals simp [-Bool.exists_bool, -Int.not_le, -Int.not_lt, -getElem?_pos, -List.getD_eq_getElem?_getD, setH, hd1, asDc]
end Go.Proofs.Ytjknjekemolndaa.ZL
namespace Go.Proofs.Ytjknjekemolndaa.ZL
open Go Go.Proofs.Ytjknjekemolndaa.Abs Go.Proofs.Ytjknjekemolndaa.Abs.Pl Go.RowKit Go.Proofs
set_option linter.unusedVariables false
set_option linter.unusedSimpArgs false
set_option linter.unnecessarySimpa false
set_option maxRecDepth 100000
def up3 (kb : Key) (s : Nat) (e1 e2 e3 : Ent) : Key → Option (Option Ent) := fun k => if k = (s, 0) then some (some e2) else if k = (s, 1) then some (some e3) else if k = kb then some (some e1) else none
theorem app_up3 (kb : Key) (s : Nat) (e1 e2 e3 : Ent) (H : Store) : app (up3 kb s e1 e2 e3) H = setH (s, 0) (some e2) (setH (s, 1) (some e3) (setH kb (some e1) H)) := by
  funext k
  unfold app up3 setH
  by_cases h1 : k = (s, 0)
  · simp only [if_pos h1]
  · by_cases h2 : k = (s, 1)
    · simp only [if_neg h1, if_pos h2]
    · by_cases h3 : k = kb
      · simp only [if_neg h1, if_neg h2, if_pos h3]
      · simp only [if_neg h1, if_neg h2, if_neg h3]
attribute [simp] app_up3
theorem mapL_hd1 (g : Key → Key) (k0 : Key) (a : At) (T : List At) : mapL g (hd1 k0 (a :: T)) = hd1 (g k0) (a :: T) := by
  simp [-Bool.exists_bool, -Int.not_le, -Int.not_lt, -getElem?_pos, -List.getD_eq_getElem?_getD, hd1, mapL_dl]
theorem callD3 {N nx s : Nat} {H : Store} {K : Eff → Prop} {cd : List Int} {c : Cu} (d : Nat) (kb : Key) (hd : d ≤ 4) (hc : c.1 ≤ cd.length) (h20 : cd.length ≤ 1048576) (hH : H kb = some (cuE cd c)) (hs : kb.1 ≠ s) (hnx : kb.1 < nx)
    (k1 : (dr3 cd d c).1 = [] → K ⟨.agg [I d, .nil], [kb], [kb], up1 kb (some (cuE cd (dr3 cd d c).2)) noUp⟩)
    (k2 : ∀ a T, (dr3 cd d c).1 = a :: T → K ⟨.agg [I d, .ref (s, 0) (T.length + 1)], [kb], [kb], up3 kb s (cuE cd (dr3 cd d c).2) (.row 51 (T.length + 1) (hd1 (s, 1) (a :: T))) (rI a.1)⟩) :
    CallJ Try.prog N nx s H 35 [.ptr kb 0, I d] K := by
  have hm := l3Draw cd d c hd hc h20
  have base : ∀ {r : V} {Hr : Store}, Cm Try.prog 35 cA [.ptr (0, 1) 0, I d] (cuH cd c) r Hr → (∀ k e, Hr k = some e → k.1 < 2 ∧ (k.1 = 0 → (cuH cd c k).isSome = true)) → K ⟨mapK (gk (fun _ => kb) s) r, [kb], [kb], upMut (fun _ => kb) (fun k => if k = kb then some 0 else none) s Hr⟩ → CallJ Try.prog N nx s H 35 [.ptr kb 0, I d] K := fun {r Hr} hm h2 hk => by
    refine CallJ.mut (fun _ => kb) (fun k => if k = kb then some 0 else none) [kb] [] hm ?_ ?_ ?_ ?_ ?_ ?_ h2 ?_ (by simpa [-Bool.exists_bool, -Int.not_le, -Int.not_lt, -getElem?_pos, -List.getD_eq_getElem?_getD] using hk)
    · simp [-Bool.exists_bool, -Int.not_le, -Int.not_lt, -getElem?_pos, -List.getD_eq_getElem?_getD, gk]
    · simp [-Bool.exists_bool, -Int.not_le, -Int.not_lt, -getElem?_pos, -List.getD_eq_getElem?_getD, allKs, allK, cA]
    · rintro k rfl; simp [-Bool.exists_bool, -Int.not_le, -Int.not_lt, -getElem?_pos, -List.getD_eq_getElem?_getD, hH]
    · intro k e h
      simp [-Bool.exists_bool, -Int.not_le, -Int.not_lt, -getElem?_pos, -List.getD_eq_getElem?_getD] at h
      obtain ⟨rfl, rfl⟩ := h
      simp [-Bool.exists_bool, -Int.not_le, -Int.not_lt, -getElem?_pos, -List.getD_eq_getElem?_getD, hH, mapE, allKE, allKs, allK, cA]
    · intro k j h
      simp [-Bool.exists_bool, -Int.not_le, -Int.not_lt, -getElem?_pos, -List.getD_eq_getElem?_getD] at h
      obtain ⟨rfl, rfl⟩ := h
      simp [-Bool.exists_bool, -Int.not_le, -Int.not_lt, -getElem?_pos, -List.getD_eq_getElem?_getD]
    · simp [-Bool.exists_bool, -Int.not_le, -Int.not_lt, -getElem?_pos, -List.getD_eq_getElem?_getD]
    · simp [-Bool.exists_bool, -Int.not_le, -Int.not_lt, -getElem?_pos, -List.getD_eq_getElem?_getD, hH, hnx]
  generalize dr3 cd d c = y at *
  obtain ⟨L, c'⟩ := y
  simp only at k1 k2 hm
  cases L with
  | nil =>
    have := k1 rfl
    refine base hm ?_ ?_
    · intro k e h
      have h : cuH cd c' k = some e := h
      simp [-Bool.exists_bool, -Int.not_le, -Int.not_lt, -getElem?_pos, -List.getD_eq_getElem?_getD] at h
      obtain ⟨rfl, rfl⟩ := h
      simp [-Bool.exists_bool, -Int.not_le, -Int.not_lt, -getElem?_pos, -List.getD_eq_getElem?_getD]
    · have e : upMut (fun _ => kb) (fun k => if k = kb then some 0 else none) s (cuH cd c') = up1 kb (some (cuE cd c')) noUp := by
        funext k
        unfold upMut up1
        by_cases h1 : k = kb
        · subst h1
          rw [if_neg hs, if_pos rfl]
          simp [-Bool.exists_bool, -Int.not_le, -Int.not_lt, -getElem?_pos, -List.getD_eq_getElem?_getD, mapE]
        · rw [if_neg h1]
          simp [-Bool.exists_bool, -Int.not_le, -Int.not_lt, -getElem?_pos, -List.getD_eq_getElem?_getD, h1, noUp]
      show K ⟨_, _, _, upMut (fun _ => kb) (fun k => if k = kb then some 0 else none) s (cuH cd c')⟩
      rw [e]
      simpa [-Bool.exists_bool, -Int.not_le, -Int.not_lt, -getElem?_pos, -List.getD_eq_getElem?_getD, gk, d3V] using this
  | cons a T =>
    have := k2 a T rfl
    refine base hm ?_ ?_
    · intro k e h
      have h := hl_mem h
      simp [-Bool.exists_bool, -Int.not_le, -Int.not_lt, -getElem?_pos, -List.getD_eq_getElem?_getD] at h
      rcases h with ⟨rfl, rfl⟩ | ⟨rfl, rfl⟩ | ⟨rfl, rfl⟩ <;> simp [-Bool.exists_bool, -Int.not_le, -Int.not_lt, -getElem?_pos, -List.getD_eq_getElem?_getD]
    · have e : upMut (fun _ => kb) (fun k => if k = kb then some 0 else none) s (d3H cd c' (a :: T)) = up3 kb s (cuE cd c') (.row 51 (T.length + 1) (hd1 (s, 1) (a :: T))) (rI a.1) := by
        funext k
        unfold upMut up3
        obtain ⟨a', b'⟩ := k
        split
        · rename_i hks
          simp only at hks
          subst hks
          have n1 : (a', b') ≠ kb := fun e => hs (by rw [← e])
          by_cases hb0 : b' = 0
          · subst hb0; simp [-Bool.exists_bool, -Int.not_le, -Int.not_lt, -getElem?_pos, -List.getD_eq_getElem?_getD, d3H, mapE, mapL_hd1, gk]
          · by_cases hb1 : b' = 1
            · subst hb1; simp [-Bool.exists_bool, -Int.not_le, -Int.not_lt, -getElem?_pos, -List.getD_eq_getElem?_getD, d3H, mapE]
            · simp [-Bool.exists_bool, -Int.not_le, -Int.not_lt, -getElem?_pos, -List.getD_eq_getElem?_getD, n1, hb0, hb1, d3H]
        · rename_i hks
          simp only at hks
          have e0 : ¬ (a', b') = (s, 0) := fun e => hks (by injection e)
          have e1 : ¬ (a', b') = (s, 1) := fun e => hks (by injection e)
          by_cases e2 : (a', b') = kb
          · simp only [if_neg e0, if_neg e1, if_pos e2]; simp [-Bool.exists_bool, -Int.not_le, -Int.not_lt, -getElem?_pos, -List.getD_eq_getElem?_getD, mapE, d3H]
          · simp only [if_neg e0, if_neg e1, if_neg e2]
      show K ⟨_, _, _, upMut (fun _ => kb) (fun k => if k = kb then some 0 else none) s (d3H cd c' (a :: T))⟩
      rw [e]
      simpa [-Bool.exists_bool, -Int.not_le, -Int.not_lt, -getElem?_pos, -List.getD_eq_getElem?_getD, gk, d3V] using this
theorem callSp3N {N nx s : Nat} {H : Store} {K : Eff → Prop} {cd : List Int} {c : Cu} (kb : Key) (d : Int) (hc : c.1 ≤ cd.length) (h20 : cd.length ≤ 1048576) (hH : H kb = some (cuE cd c)) (hs : kb.1 ≠ s) (hn : kb.1 < nx)
    (hk : K ⟨C1 (sp3 cd d [] c).1.1 (sp3 cd d [] c).1.2, [kb], [kb], up1 kb (some (cuE cd (sp3 cd d [] c).2)) noUp⟩) : CallJ Try.prog N nx s H 34 [.ptr kb 0, .agg [I d, .nil]] K :=
  callCu kb (l3SpoilN cd c d hc h20) (fun g => rfl) (fun _ => by simp [-Bool.exists_bool, -Int.not_le, -Int.not_lt, -getElem?_pos, -List.getD_eq_getElem?_getD, allKs, allK]) (fun g => rfl) hH hs hn hk
def upT (kb kr kc : Key) (e1 : Ent) : Key → Option (Option Ent) := fun k => if k = kb then some (some e1) else if k = kr then some none else if k = kc then some none else none
theorem app_upT (kb kr kc : Key) (e1 : Ent) (H : Store) : app (upT kb kr kc e1) H = setH kb (some e1) (setH kr none (setH kc none H)) := by
  funext k
  unfold app upT setH
  by_cases h1 : k = kb
  · simp only [if_pos h1]
  · by_cases h2 : k = kr
    · simp only [if_neg h1, if_pos h2]
    · by_cases h3 : k = kc
      · simp only [if_neg h1, if_neg h2, if_pos h3]
      · simp only [if_neg h1, if_neg h2, if_neg h3]
attribute [simp] app_upT
theorem callSp3 {N nx s : Nat} {H : Store} {K : Eff → Prop} {cd : List Int} {c : Cu} (kb kr kc : Key) (d : Int) (a : At) (T : List At) (hT : T.length ≤ 15) (ha : a.1.length ≤ 1048576) (hc : c.1 ≤ cd.length) (h20 : cd.length ≤ 1048576) (hb : H kb = some (cuE cd c)) (hr : H kr = some (.row 51 (T.length + 1) (hd1 kc (a :: T)))) (hcc : H kc = some (rI a.1)) (hne : kb ≠ kr ∧ kb ≠ kc ∧ kr ≠ kc) (hs : kb.1 ≠ s ∧ kr.1 ≠ s ∧ kc.1 ≠ s) (hn : kb.1 < nx ∧ (kc.1 < nx ∨ kc.1 = kr.1))
    (hk : K ⟨C1 (sp3 cd d (a :: T) c).1.1 (sp3 cd d (a :: T) c).1.2, [kb, kr, kc], [kb, kr, kc], upT kb kr kc (cuE cd (sp3 cd d (a :: T) c).2)⟩) : CallJ Try.prog N nx s H 34 [.ptr kb 0, .agg [I d, .ref kr (T.length + 1)]] K := by
  obtain ⟨n1, n2, n3⟩ := hne
  have e : upMut (fun j => if j = 0 then kb else if j = 1 then kr else kc) (fun k => if k = kb then some 0 else if k = kr then some 1 else if k = kc then some 2 else none) s (cuH cd (sp3 cd d (a :: T) c).2) = upT kb kr kc (cuE cd (sp3 cd d (a :: T) c).2) := by
    funext k
    unfold upMut upT
    split
    · rename_i hks
      have m1 : k ≠ kb := fun e => hs.1 (by rw [← e]; exact hks)
      have m2 : k ≠ kr := fun e => hs.2.1 (by rw [← e]; exact hks)
      have m3 : k ≠ kc := fun e => hs.2.2 (by rw [← e]; exact hks)
      simp [-Bool.exists_bool, -Int.not_le, -Int.not_lt, -getElem?_pos, -List.getD_eq_getElem?_getD, m1, m2, m3, hks]
    · by_cases e1 : k = kb
      · simp only [if_pos e1]; simp [-Bool.exists_bool, -Int.not_le, -Int.not_lt, -getElem?_pos, -List.getD_eq_getElem?_getD, mapE, gk]
      · by_cases e2 : k = kr
        · simp only [if_neg e1, if_pos e2]; simp [-Bool.exists_bool, -Int.not_le, -Int.not_lt, -getElem?_pos, -List.getD_eq_getElem?_getD]
        · by_cases e3 : k = kc
          · simp only [if_neg e1, if_neg e2, if_pos e3]; simp [-Bool.exists_bool, -Int.not_le, -Int.not_lt, -getElem?_pos, -List.getD_eq_getElem?_getD]
          · simp only [if_neg e1, if_neg e2, if_neg e3]
  rw [← e] at hk
  refine CallJ.mut (fun j => if j = 0 then kb else if j = 1 then kr else kc) (fun k => if k = kb then some 0 else if k = kr then some 1 else if k = kc then some 2 else none) [kb, kr, kc] [] (l3SpoilC cd c d a T hT ha hc h20) ?_ ?_ ?_ ?_ ?_ ?_ ?_ ?_ (by simpa [-Bool.exists_bool, -Int.not_le, -Int.not_lt, -getElem?_pos, -List.getD_eq_getElem?_getD] using hk)
  · simp [-Bool.exists_bool, -Int.not_le, -Int.not_lt, -getElem?_pos, -List.getD_eq_getElem?_getD, gk]
  · simp [-Bool.exists_bool, -Int.not_le, -Int.not_lt, -getElem?_pos, -List.getD_eq_getElem?_getD, allKs, allK, tA]
  · rintro k (rfl | rfl | rfl)
    · simp [-Bool.exists_bool, -Int.not_le, -Int.not_lt, -getElem?_pos, -List.getD_eq_getElem?_getD, hb]
    · simp [-Bool.exists_bool, -Int.not_le, -Int.not_lt, -getElem?_pos, -List.getD_eq_getElem?_getD, hr]
    · simp [-Bool.exists_bool, -Int.not_le, -Int.not_lt, -getElem?_pos, -List.getD_eq_getElem?_getD, hcc]
  · intro k e h
    have h := hl_mem h
    simp [-Bool.exists_bool, -Int.not_le, -Int.not_lt, -getElem?_pos, -List.getD_eq_getElem?_getD] at h
    rcases h with ⟨rfl, rfl⟩ | ⟨rfl, rfl⟩ | ⟨rfl, rfl⟩
    · simp [-Bool.exists_bool, -Int.not_le, -Int.not_lt, -getElem?_pos, -List.getD_eq_getElem?_getD, tA, hb, mapE, allKE, allKs, allK, gk]
    · simp [-Bool.exists_bool, -Int.not_le, -Int.not_lt, -getElem?_pos, -List.getD_eq_getElem?_getD, tA, hr, mapE, allKE, allKs, allK, gk, n1.symm, mapL_hd1, hd1, allKs_dl]
    · simp [-Bool.exists_bool, -Int.not_le, -Int.not_lt, -getElem?_pos, -List.getD_eq_getElem?_getD, tA, hcc, mapE, allKE, allKs, allK, gk, n2.symm, n3.symm]
  · intro k j h
    split at h
    · rename_i e
      obtain rfl := Option.some.inj h
      simp [-Bool.exists_bool, -Int.not_le, -Int.not_lt, -getElem?_pos, -List.getD_eq_getElem?_getD, e]
    · split at h
      · rename_i e1 e2
        obtain rfl := Option.some.inj h
        simp [-Bool.exists_bool, -Int.not_le, -Int.not_lt, -getElem?_pos, -List.getD_eq_getElem?_getD, e2]
      · split at h
        · rename_i e1 e2 e3
          obtain rfl := Option.some.inj h
          simp [-Bool.exists_bool, -Int.not_le, -Int.not_lt, -getElem?_pos, -List.getD_eq_getElem?_getD, e3]
        · cases h
  · simp [-Bool.exists_bool, -Int.not_le, -Int.not_lt, -getElem?_pos, -List.getD_eq_getElem?_getD, n1.symm, n2.symm, n3.symm]
  · intro k e h
    simp [-Bool.exists_bool, -Int.not_le, -Int.not_lt, -getElem?_pos, -List.getD_eq_getElem?_getD] at h
    obtain ⟨rfl, rfl⟩ := h
    simp [-Bool.exists_bool, -Int.not_le, -Int.not_lt, -getElem?_pos, -List.getD_eq_getElem?_getD]
  · intro k hk
    simp [-Bool.exists_bool, -Int.not_le, -Int.not_lt, -getElem?_pos, -List.getD_eq_getElem?_getD] at hk
    rcases hk with rfl | rfl | rfl
    · exact ⟨by simp [-Bool.exists_bool, -Int.not_le, -Int.not_lt, -getElem?_pos, -List.getD_eq_getElem?_getD, hb], .inl hn.1⟩
    · exact ⟨by simp [-Bool.exists_bool, -Int.not_le, -Int.not_lt, -getElem?_pos, -List.getD_eq_getElem?_getD, hr], .inr (by simp [-Bool.exists_bool, -Int.not_le, -Int.not_lt, -getElem?_pos, -List.getD_eq_getElem?_getD, slotsL, slotsV])⟩
    · refine ⟨by simp [-Bool.exists_bool, -Int.not_le, -Int.not_lt, -getElem?_pos, -List.getD_eq_getElem?_getD, hcc], ?_⟩
      rcases hn.2 with h | h
      · exact .inl h
      · exact .inr (by rw [h]; simp [-Bool.exists_bool, -Int.not_le, -Int.not_lt, -getElem?_pos, -List.getD_eq_getElem?_getD, slotsL, slotsV])
end Go.Proofs.Ytjknjekemolndaa.ZL
namespace Go.Proofs.Ytjknjekemolndaa.ZL
open Go Go.Proofs.Ytjknjekemolndaa.Abs Go.Proofs.Ytjknjekemolndaa.Abs.Pl Go.RowKit Go.Proofs
set_option linter.unusedVariables false
set_option linter.unusedSimpArgs false
set_option linter.unnecessarySimpa false
set_option maxRecDepth 100000
theorem pickF_cu (cd l : List Int) (c : Cu) (h : c.1 ≤ cd.length) : (pickF cd l c).2.1 ≤ cd.length := belowF_cu _ _ _ h
theorem pickF_mem (cd l : List Int) (c : Cu) (h : 0 < l.length) : (pickF cd l c).1 ∈ l := by
  have := belowF_bd cd (n := l.length) c (by omega)
  exact nth_mem (by omega)
def smA (L : List At) : Prop := ∀ a ∈ L, a.1.length ≤ 5
theorem us_ok (cd : List Int) (d : Nat) (hd : d ≤ 4) : ∀ (n : Nat) (L : List At) (c : Cu), smA L → c.1 ≤ cd.length → smA (us cd d n L c).1 ∧ (us cd d n L c).2.1 ≤ cd.length ∧ (us cd d n L c).1.length = L.length + n
  | 0, L, c, h, hc => ⟨h, hc, rfl⟩
  | n + 1, L, c, h, hc => by
    have := us_ok cd d hd n (L ++ [at2 (drA cd d c).1]) (drA cd d c).2 (fun a ha => by
      rcases List.mem_append.1 ha with ha | ha
      · exact h a ha
      · rw [List.mem_singleton.1 ha]
        have := (drA_ok cd d c hd).2
        show (drA cd d c).1.1.length ≤ 5
        omega) (drA_cu cd d c hc)
    refine ⟨this.1, this.2.1, ?_⟩
    have h3 := this.2.2
    simp only [List.length_append, List.length_singleton] at h3
    show (us cd d n _ _).1.length = _
    omega
theorem axA_ok (cd : List Int) (d v : Nat) (c : Cu) (hd : d ≤ 4) : (axA cd d v c).1.1.length ≤ 4 := by
  unfold axA mkA
  split
  · exact mkAt_len _ _ _
  · simp [-Bool.exists_bool, -Int.not_le, -Int.not_lt, -getElem?_pos, -List.getD_eq_getElem?_getD, noAt]
theorem axA_cu (cd : List Int) (d v : Nat) (c : Cu) (h : c.1 ≤ cd.length) : (axA cd d v c).2.1 ≤ cd.length := belowF_cu _ _ _ (belowF_cu _ _ _ (belowF_cu _ _ _ h))
theorem vs_ok (cd : List Int) (d : Nat) (hd : d ≤ 4) : ∀ (k v : Nat) (L : List At) (c : Cu), smA L → c.1 ≤ cd.length → smA (vs cd d k v L c).1 ∧ (vs cd d k v L c).2.1 ≤ cd.length ∧ (vs cd d k v L c).1.length ≤ L.length + k
  | 0, v, L, c, h, hc => ⟨h, hc, Nat.le_refl _⟩
  | k + 1, v, L, c, h, hc => by
    unfold vs
    split
    · have := vs_ok cd d hd k (v + 1) (L ++ [at2 (axA cd d v (belowF cd 2 c).2).1]) (axA cd d v (belowF cd 2 c).2).2 (fun a ha => by
        rcases List.mem_append.1 ha with ha | ha
        · exact h a ha
        · rw [List.mem_singleton.1 ha]
          have := axA_ok cd d v (belowF cd 2 c).2 hd
          show (axA cd d v (belowF cd 2 c).2).1.1.length ≤ 5
          omega) (axA_cu _ _ _ _ (belowF_cu _ _ _ hc))
      refine ⟨this.1, this.2.1, ?_⟩
      have h3 := this.2.2
      simp only [List.length_append, List.length_singleton] at h3
      omega
    · exact ⟨h, belowF_cu _ _ _ hc, Nat.le_add_right _ _⟩
theorem dr3_ok (cd : List Int) (d : Nat) (c : Cu) (hd : d ≤ 4) (hc : c.1 ≤ cd.length) : smA (dr3 cd d c).1 ∧ (dr3 cd d c).2.1 ≤ cd.length ∧ (dr3 cd d c).1.length ≤ 7 := by
  have hb := belowF_bd cd (n := 4) c (by omega)
  have h1 := us_ok cd d hd (belowF cd 4 c).1.toNat [] (belowF cd 4 c).2 (fun a ha => by simp [-Bool.exists_bool, -Int.not_le, -Int.not_lt, -getElem?_pos, -List.getD_eq_getElem?_getD] at ha) (belowF_cu _ _ _ hc)
  have h2 := vs_ok cd d hd d 0 _ _ h1.1 h1.2.1
  refine ⟨h2.1, h2.2.1, ?_⟩
  have h3 := h2.2.2
  rw [h1.2.2] at h3
  simp only [List.length_nil] at h3
  show (vs cd d d 0 _ _).1.length ≤ 7
  omega
theorem spA_len (cd : List Int) (a : At) (c : Cu) : (spA cd a c).1.1.length ≤ a.1.length + 1 := by
  unfold spA
  repeat' split
  all_goals simp [-Bool.exists_bool, -Int.not_le, -Int.not_lt, -getElem?_pos, -List.getD_eq_getElem?_getD]
def smC (x : Int × List At) : Prop := x.2.length ≤ 100 ∧ ∀ a ∈ x.2, a.1.length ≤ 100
theorem sp3_ok (cd : List Int) (d : Int) (L : List At) (c : Cu) (h : smA L) (hl : L.length ≤ 7) (hc : c.1 ≤ cd.length) : smC (sp3 cd d L c).1 ∧ (sp3 cd d L c).2.1 ≤ cd.length := by
  have h1 := belowF_cu cd 40 c hc
  have hL : smC (d, L) := ⟨by show L.length ≤ 100; omega, fun a ha => by have := h a ha; omega⟩
  unfold sp3
  split
  · exact ⟨hL, pickF_cu _ _ _ h1⟩
  · split
    · cases L with
      | nil => exact ⟨hL, h1⟩
      | cons a T =>
        refine ⟨⟨by simpa [-Bool.exists_bool, -Int.not_le, -Int.not_lt, -getElem?_pos, -List.getD_eq_getElem?_getD] using hL.1, fun b hb => ?_⟩, spA_cu _ _ _ h1⟩
        rcases List.mem_cons.1 hb with rfl | hb
        · have := spA_len cd a (belowF cd 40 c).2
          have := h a (by simp [-Bool.exists_bool, -Int.not_le, -Int.not_lt, -getElem?_pos, -List.getD_eq_getElem?_getD])
          omega
        · exact hL.2 b (by simp [-Bool.exists_bool, -Int.not_le, -Int.not_lt, -getElem?_pos, -List.getD_eq_getElem?_getD, hb])
    · split
      · cases L with
        | nil => exact ⟨hL, h1⟩
        | cons a T =>
          refine ⟨⟨by simp [-Bool.exists_bool, -Int.not_le, -Int.not_lt, -getElem?_pos, -List.getD_eq_getElem?_getD] at hl ⊢; omega, fun b hb => ?_⟩, h1⟩
          rcases List.mem_append.1 hb with hb | hb
          · exact hL.2 b hb
          · rw [(List.mem_replicate.1 hb).2]; exact hL.2 a (by simp [-Bool.exists_bool, -Int.not_le, -Int.not_lt, -getElem?_pos, -List.getD_eq_getElem?_getD])
      · exact ⟨hL, h1⟩
def dimL : List Int := [0, 1, 1, 2, 2, 2, 3]
def anF (cd : List Int) (c : Cu) : (Int × List At) × Cu :=
  sp3 cd (pickF cd dimL c).1 (dr3 cd (pickF cd dimL c).1.toNat (pickF cd dimL c).2).1 (dr3 cd (pickF cd dimL c).1.toNat (pickF cd dimL c).2).2
theorem dim_bd (cd : List Int) (c : Cu) : 0 ≤ (pickF cd dimL c).1 ∧ (pickF cd dimL c).1 ≤ 3 := by
  have := pickF_mem cd dimL c (by simp [-Bool.exists_bool, -Int.not_le, -Int.not_lt, -getElem?_pos, -List.getD_eq_getElem?_getD, dimL])
  generalize (pickF cd dimL c).1 = x at *
  simp [-Bool.exists_bool, -Int.not_le, -Int.not_lt, -getElem?_pos, -List.getD_eq_getElem?_getD, dimL] at this
  omega
theorem anF_ok (cd : List Int) (c : Cu) (hc : c.1 ≤ cd.length) : smC (anF cd c).1 ∧ (anF cd c).2.1 ≤ cd.length := by
  have hb := dim_bd cd c
  have h := dr3_ok cd (pickF cd dimL c).1.toNat (pickF cd dimL c).2 (by omega) (pickF_cu _ _ _ hc)
  exact sp3_ok cd _ _ _ h.1 h.2.2 h.2.1
theorem l3Any (cd : List Int) (c : Cu) (hc : c.1 ≤ cd.length) (h20 : cd.length ≤ 1048576) : Cm Try.prog 15 cA [.ptr (0, 1) 0] (cuH cd c) (C1 (anF cd c).1.1 (anF cd c).1.2) (cuH cd (anF cd c).2) := by
  refine Cm.of [] mixed Try.func15 rfl Try.call15 (by kernel_rfl) rfl ?_
  simp -implicitDefEqProofs -dsimp +contextual [-Bool.exists_bool, -Int.not_le, -Int.not_lt, -getElem?_pos, -List.getD_eq_getElem?_getD, Try.f15]
  have hc1 := pickF_cu cd dimL c hc
  have hb := dim_bd cd c
  have hdr := dr3_ok cd (pickF cd dimL c).1.toNat (pickF cd dimL c).2 (by omega) hc1
  refine callPick dimL (0, 1) (by simp [-Bool.exists_bool, -Int.not_le, -Int.not_lt, -getElem?_pos, -List.getD_eq_getElem?_getD, dimL]) hc h20 (by simp [-Bool.exists_bool, -Int.not_le, -Int.not_lt, -getElem?_pos, -List.getD_eq_getElem?_getD, setH]) (by simp [-Bool.exists_bool, -Int.not_le, -Int.not_lt, -getElem?_pos, -List.getD_eq_getElem?_getD]) (by simp [-Bool.exists_bool, -Int.not_le, -Int.not_lt, -getElem?_pos, -List.getD_eq_getElem?_getD]) ?_
  unfold anF
  generalize pickF cd dimL c = y at *
  obtain ⟨d, c1⟩ := y
  simp only at hc1 hb hdr ⊢
  obtain ⟨d, rfl⟩ : ∃ n : Nat, d = n := ⟨d.toNat, by omega⟩
  rw [Int.toNat_natCast] at hdr ⊢
  simp -implicitDefEqProofs -dsimp +contextual [-Bool.exists_bool, -Int.not_le, -Int.not_lt, -getElem?_pos, -List.getD_eq_getElem?_getD]
  refine callD3 d (0, 1) (by omega) hc1 h20 (by simp [-Bool.exists_bool, -Int.not_le, -Int.not_lt, -getElem?_pos, -List.getD_eq_getElem?_getD, setH]) (by simp [-Bool.exists_bool, -Int.not_le, -Int.not_lt, -getElem?_pos, -List.getD_eq_getElem?_getD]) (by simp [-Bool.exists_bool, -Int.not_le, -Int.not_lt, -getElem?_pos, -List.getD_eq_getElem?_getD]) (fun h => ?_) (fun a T h => ?_)
  · generalize dr3 cd d c1 = y at *
    obtain ⟨L, c2⟩ := y
    simp only at hdr h ⊢
    subst h
    simp -implicitDefEqProofs -dsimp +contextual [-Bool.exists_bool, -Int.not_le, -Int.not_lt, -getElem?_pos, -List.getD_eq_getElem?_getD]
    refine callSp3N (0, 1) d hdr.2.1 h20 (by simp [-Bool.exists_bool, -Int.not_le, -Int.not_lt, -getElem?_pos, -List.getD_eq_getElem?_getD, setH]) (by simp [-Bool.exists_bool, -Int.not_le, -Int.not_lt, -getElem?_pos, -List.getD_eq_getElem?_getD]) (by simp [-Bool.exists_bool, -Int.not_le, -Int.not_lt, -getElem?_pos, -List.getD_eq_getElem?_getD]) ?_
    simp -implicitDefEqProofs -dsimp +contextual [-Bool.exists_bool, -Int.not_le, -Int.not_lt, -getElem?_pos, -List.getD_eq_getElem?_getD]
    refine RLm.frzC [] 2 ?_ rfl ?_ ?_
    all_goals simp [-Bool.exists_bool, -Int.not_le, -Int.not_lt, -getElem?_pos, -List.getD_eq_getElem?_getD, setH]
  · generalize dr3 cd d c1 = y at *
    obtain ⟨L, c2⟩ := y
    simp only at hdr h ⊢
    subst h
    have h7 := hdr.2.2
    simp only [List.length_cons] at h7
    have ha := hdr.1 a (by simp [-Bool.exists_bool, -Int.not_le, -Int.not_lt, -getElem?_pos, -List.getD_eq_getElem?_getD])
    simp -implicitDefEqProofs -dsimp +contextual [-Bool.exists_bool, -Int.not_le, -Int.not_lt, -getElem?_pos, -List.getD_eq_getElem?_getD]
    refine callSp3 (0, 1) (7, 0) (7, 1) d a T (by omega) (by omega) hdr.2.1 h20 (by simp [-Bool.exists_bool, -Int.not_le, -Int.not_lt, -getElem?_pos, -List.getD_eq_getElem?_getD, setH]) (by simp [-Bool.exists_bool, -Int.not_le, -Int.not_lt, -getElem?_pos, -List.getD_eq_getElem?_getD, setH]) (by simp [-Bool.exists_bool, -Int.not_le, -Int.not_lt, -getElem?_pos, -List.getD_eq_getElem?_getD, setH]) (by simp [-Bool.exists_bool, -Int.not_le, -Int.not_lt, -getElem?_pos, -List.getD_eq_getElem?_getD]) (by simp [-Bool.exists_bool, -Int.not_le, -Int.not_lt, -getElem?_pos, -List.getD_eq_getElem?_getD]) (by simp [-Bool.exists_bool, -Int.not_le, -Int.not_lt, -getElem?_pos, -List.getD_eq_getElem?_getD]) ?_
    simp -implicitDefEqProofs -dsimp +contextual [-Bool.exists_bool, -Int.not_le, -Int.not_lt, -getElem?_pos, -List.getD_eq_getElem?_getD]
    refine RLm.frzC [] 2 ?_ rfl ?_ ?_
    all_goals simp [-Bool.exists_bool, -Int.not_le, -Int.not_lt, -getElem?_pos, -List.getD_eq_getElem?_getD, setH]
theorem callAny {N nx s : Nat} {H : Store} {K : Eff → Prop} {cd : List Int} {c : Cu} (kb : Key) (hc : c.1 ≤ cd.length) (h20 : cd.length ≤ 1048576) (hH : H kb = some (cuE cd c)) (hs : kb.1 ≠ s) (hn : kb.1 < nx) (hk : K ⟨C1 (anF cd c).1.1 (anF cd c).1.2, [kb], [kb], up1 kb (some (cuE cd (anF cd c).2)) noUp⟩) :
    CallJ Try.prog N nx s H 15 [.ptr kb 0] K := callCu kb (l3Any cd c hc h20) (fun g => rfl) (fun _ => by simp [-Bool.exists_bool, -Int.not_le, -Int.not_lt, -getElem?_pos, -List.getD_eq_getElem?_getD, allKs, allK]) (fun g => rfl) hH hs hn hk
end Go.Proofs.Ytjknjekemolndaa.ZL
namespace Go.Proofs.Ytjknjekemolndaa.ZL
open Go Go.Proofs.Ytjknjekemolndaa.Abs Go.Proofs.Ytjknjekemolndaa.Abs.Pl Go.RowKit Go.Proofs
set_option linter.unusedVariables false
set_option linter.unusedSimpArgs false
set_option maxRecDepth 100000
theorem IsRefuted (d : Int) (L : List At) (m : List Int) (h20 : L.length ≤ 1048576) (hm20 : m.length ≤ 1048576) : Cn Try.prog 12 [C1 d L, Is m] (B (isRef d L m)) hemp := by
  refine Cn.of [0] mixed Try.func12 rfl Try.call12 (by kernel_rfl) rfl ?_
  simp -implicitDefEqProofs -dsimp +contextual [-Bool.exists_bool, -Int.not_le, -Int.not_lt, -getElem?_pos, -List.getD_eq_getElem?_getD, Try.f12]
  refine CallJ.pure (IsCell d L h20) rfl (by simp [-Bool.exists_bool, -Int.not_le, -Int.not_lt, -getElem?_pos, -List.getD_eq_getElem?_getD]) ?_
  simp -implicitDefEqProofs -dsimp +contextual [-Bool.exists_bool, -Int.not_le, -Int.not_lt, -getElem?_pos, -List.getD_eq_getElem?_getD]
  refine ⟨fun hc => ?_, fun hc => RLe.bb (by simp [-Bool.exists_bool, -Int.not_le, -Int.not_lt, -getElem?_pos, -List.getD_eq_getElem?_getD, isRef, hc])⟩
  have hd := isCe_d hc
  have h16 := isCe_l hc
  have hok := isCe_a hc
  refine ⟨fun hml => ?_, fun hml => RLe.bb (by rw [isRef, if_neg (by simp [-Bool.exists_bool, -Int.not_le, -Int.not_lt, -getElem?_pos, -List.getD_eq_getElem?_getD, hc]; omega)])⟩
  have hml : m.length = L.length := by omega
  obtain ⟨Dn, rfl⟩ : ∃ n : Nat, d = n := ⟨d.toNat, by omega⟩
  have e0 : isRef Dn L m = refGo (List.replicate Dn 0) 0 false m L := by rw [isRef, if_pos (by simp [-Bool.exists_bool, -Int.not_le, -Int.not_lt, -getElem?_pos, -List.getD_eq_getElem?_getD, hc, hml])]; rfl
  rw [e0, Int.toNat_natCast]
  refine ⟨⟨by omega, by omega, by simp [-Bool.exists_bool, -Int.not_le, -Int.not_lt, -getElem?_pos, -List.getD_eq_getElem?_getD, maxLen]; omega⟩, ?_⟩
  refine WP.loop mixed [0] (fun p : Nat × List Int × Int × Bool => ⟨tl [(1, Is m), (2, .ptr (0, 0) 0), (5, .ref (1, 0) Dn), (6, I p.2.2.1), (7, B p.2.2.2), (8, I p.1)], Go.Proofs.Ytjknjekemolndaa.Abs.hl [((0, 0), .box [I Dn, As L]), ((1, 0), .row 3 Dn (dl (p.2.1.map (D.int .i64))))], 2⟩)
    (fun p => p.1 ≤ m.length ∧ p.2.1.length = Dn ∧ (∀ x ∈ p.2.1, bd2 p.1 x) ∧ bd2 p.1 p.2.2.1 ∧ refGo (List.replicate Dn 0) 0 false m L = refGo p.2.1 p.2.2.1 p.2.2.2 (m.drop p.1) (L.drop p.1)) (fun p => m.length - p.1) (0, List.replicate Dn 0, 0, false) (by kernel_rfl) ?_ ?_ ?_
  · refine Le.told [((1, 0), (15, 0))] ?_ ?_ ?_ <;> simp [-Bool.exists_bool, -Int.not_le, -Int.not_lt, -getElem?_pos, -List.getD_eq_getElem?_getD, setH, hml]
  · refine ⟨Nat.zero_le _, by simp [-Bool.exists_bool, -Int.not_le, -Int.not_lt, -getElem?_pos, -List.getD_eq_getElem?_getD], fun x hx => ?_, by simp [-Bool.exists_bool, -Int.not_le, -Int.not_lt, -getElem?_pos, -List.getD_eq_getElem?_getD, bd2], rfl⟩
    rw [(List.mem_replicate.1 hx).2]; simp [-Bool.exists_bool, -Int.not_le, -Int.not_lt, -getElem?_pos, -List.getD_eq_getElem?_getD, bd2]
  · rintro ⟨i, s, k, st⟩ ⟨hi, hsl, hsb, hkb, he⟩
    simp only at hi hsl hsb hkb he
    by_cases h : i < m.length
    · have hL : i < L.length := by omega
      have ho := hok _ (nth_mem hL)
      have hnu := okA_num ho
      have hcl : (nth L i).1.length = Dn := by have := ho.2; omega
      rw [nth_drop h, nth_drop hL, refGo] at he
      simp -implicitDefEqProofs -dsimp +contextual [-Bool.exists_bool, -Int.not_le, -Int.not_lt, -getElem?_pos, -List.getD_eq_getElem?_getD, h, hL]
      refine CallJ.pure (l1In _ _ _) rfl (by simp [-Bool.exists_bool, -Int.not_le, -Int.not_lt, -getElem?_pos, -List.getD_eq_getElem?_getD]) ?_
      have hinb : inB (nth m i) 0 400000000 = (decide (0 ≤ nth m i) && decide (nth m i ≤ 400000000)) := rfl
      rw [hinb]
      obtain ⟨a, hai⟩ : ∃ a, nth L i = a := ⟨_, rfl⟩
      obtain ⟨n, hmi⟩ : ∃ n, nth m i = n := ⟨_, rfl⟩
      rw [hai] at ho hnu hcl
      rw [hai, hmi] at he
      rw [hmi]
      cases hn : (decide (0 ≤ n) && decide (n ≤ 400000000)) with
      | false =>
        rw [if_neg (by simp [-Bool.exists_bool, -Int.not_le, -Int.not_lt, -getElem?_pos, -List.getD_eq_getElem?_getD, hn])] at he
        simp -implicitDefEqProofs -dsimp +contextual [-Bool.exists_bool, -Int.not_le, -Int.not_lt, -getElem?_pos, -List.getD_eq_getElem?_getD, hn]
        exact RLe.bb he.symm
      | true =>
        rw [if_pos hn] at he
        simp only [Bool.and_eq_true, decide_eq_true_eq] at hn
        simp -implicitDefEqProofs -dsimp +contextual [-Bool.exists_bool, -Int.not_le, -Int.not_lt, -getElem?_pos, -List.getD_eq_getElem?_getD]
        refine WP.loop mixed [0] (fun j : Nat => ⟨tl [(1, Is m), (2, .ptr (0, 0) 0), (5, .ref (1, 0) Dn), (6, I k), (7, B st), (8, I i), (9, I j)], Go.Proofs.Ytjknjekemolndaa.Abs.hl [((0, 0), .box [I Dn, As L]), ((1, 0), .row 3 Dn (dl ((curM n a.1 s j).map (D.int .i64))))], 2⟩) (fun j => j ≤ Dn) (fun j => Dn - j) 0 (by kernel_rfl) ?_ ?_ ?_
        · refine Le.told [] ?_ ?_ ?_ <;> simp [-Bool.exists_bool, -Int.not_le, -Int.not_lt, -getElem?_pos, -List.getD_eq_getElem?_getD, curM]
        · simp [-Bool.exists_bool, -Int.not_le, -Int.not_lt, -getElem?_pos, -List.getD_eq_getElem?_getD]
        · intro j hj
          by_cases hjd : j < Dn
          · have hjs : j < s.length := by omega
            have hja : j < a.1.length := by omega
            have hcm := curM_len n a.1 s j (by omega)
            rw [hsl] at hcm
            have hcn := curM_nth n a.1 s j hjs
            have hset := curM_set n a.1 s j hjs
            have hj1 : j + 1 ≤ Dn := hjd
            have hget : (curM n a.1 s j)[j]? = some (nth s j) := by rw [nth_some (by rw [hcm]; exact hjd), hcn]
            simp -implicitDefEqProofs -dsimp +contextual [-Bool.exists_bool, -Int.not_le, -Int.not_lt, -getElem?_pos, -List.getD_eq_getElem?_getD, h, hL, hai, hmi, hjd, hja, hcm, hj1, hget]
            have nx := isNum_iff.1 (hnu.1 _ (nth_mem hja))
            have mb := Pl.mul_bd (a := n) (b := nth a.1 j) (by omega) (by omega)
            have sb := hsb _ (nth_mem hjs)
            unfold bd2 at sb
            have hi16 : (i : Int) ≤ 15 := by omega
            rw [wr (x := n * nth a.1 j) (by omega) (by omega), wr (x := nth s j + n * nth a.1 j) (by omega) (by omega), wr (x := (j : Int) + 1) (by omega) (by omega)]
            refine ⟨Quiet.of [] (by kernel_rfl) (by simp [-Bool.exists_bool, -Int.not_le, -Int.not_lt, -getElem?_pos, -List.getD_eq_getElem?_getD, allP, offB]), j + 1, hjd, by omega, ?_⟩
            refine Le.told [] ?_ ?_ ?_ <;> simp [-Bool.exists_bool, -Int.not_le, -Int.not_lt, -getElem?_pos, -List.getD_eq_getElem?_getD]
            rw [← hset, List.map_set, List.set_eq_take_append_cons_drop, if_pos (by rw [List.length_map, hcm]; exact hjd)]
          · have hjD : j = Dn := by omega
            subst hjD
            simp -implicitDefEqProofs -dsimp +contextual [-Bool.exists_bool, -Int.not_le, -Int.not_lt, -getElem?_pos, -List.getD_eq_getElem?_getD, h, hjd, hL, hai, hmi]
            have nx := isNum_iff.1 hnu.2.1
            have mb := Pl.mul_bd (a := n) (b := a.2.1) (by omega) (by omega)
            unfold bd2 at hkb
            have hi16 : (i : Int) ≤ 15 := by omega
            rw [wr (x := n * a.2.1) (by omega) (by omega), wr (x := k + n * a.2.1) (by omega) (by omega), wr (x := (i : Int) + 1) (by omega) (by omega)]
            have hcur : curM n a.1 s s.length = addMul n a.1 s := by simp [-Bool.exists_bool, -Int.not_le, -Int.not_lt, -getElem?_pos, -List.getD_eq_getElem?_getD, curM, addMul_len, List.take_of_length_le]
            rw [hsl] at hcur
            have hnb : ∀ x ∈ addMul n a.1 s, bd2 (i + 1) x := fun x hx => by
              obtain ⟨j', hj', rfl⟩ := List.getElem_of_mem hx
              have hjl : j' < s.length := by rwa [addMul_len] at hj'
              have e := addMul_nth n a.1 s j' hjl
              rw [nth_eq hj'] at e
              rw [e]
              have sb := hsb _ (nth_mem hjl)
              have hja : j' < a.1.length := by omega
              have nx := isNum_iff.1 (hnu.1 _ (nth_mem hja))
              have mb := Pl.mul_bd (a := n) (b := nth a.1 j') (by omega) (by omega)
              unfold bd2 at sb ⊢
              omega
            have hkb' : bd2 (i + 1) (k + n * a.2.1) := by unfold bd2; omega
            have fin : ∀ st', (st || decide (0 < n) && a.2.2) = st' → refGo (List.replicate j 0) 0 false m L = refGo (addMul n a.1 s) (k + n * a.2.1) st' (m.drop (i + 1)) (L.drop (i + 1)) := fun st' e => by rw [he, e]
            refine ⟨fun hst => ?_, fun hst => ⟨fun hn0 => ?_, fun hn0 => ?_⟩⟩
            · refine ⟨i + 1, addMul n a.1 s, k + n * a.2.1, true, ⟨h, by rw [addMul_len, hsl], hnb, hkb', fin _ (by simp [-Bool.exists_bool, -Int.not_le, -Int.not_lt, -getElem?_pos, -List.getD_eq_getElem?_getD, hst])⟩, by omega, ?_⟩
              refine Le.told [] ?_ ?_ ?_ <;> simp [-Bool.exists_bool, -Int.not_le, -Int.not_lt, -getElem?_pos, -List.getD_eq_getElem?_getD, hcur]
            · refine ⟨i + 1, addMul n a.1 s, k + n * a.2.1, a.2.2, ⟨h, by rw [addMul_len, hsl], hnb, hkb', fin _ (by simp [-Bool.exists_bool, -Int.not_le, -Int.not_lt, -getElem?_pos, -List.getD_eq_getElem?_getD, hst, hn0])⟩, by omega, ?_⟩
              refine Le.told [] ?_ ?_ ?_ <;> simp [-Bool.exists_bool, -Int.not_le, -Int.not_lt, -getElem?_pos, -List.getD_eq_getElem?_getD, hcur]
            · refine ⟨i + 1, addMul n a.1 s, k + n * a.2.1, false, ⟨h, by rw [addMul_len, hsl], hnb, hkb', fin _ (by simp [-Bool.exists_bool, -Int.not_le, -Int.not_lt, -getElem?_pos, -List.getD_eq_getElem?_getD, hst, hn0])⟩, by omega, ?_⟩
              refine Le.told [] ?_ ?_ ?_ <;> simp [-Bool.exists_bool, -Int.not_le, -Int.not_lt, -getElem?_pos, -List.getD_eq_getElem?_getD, hcur]
    · have e1 : refGo (List.replicate Dn 0) 0 false m L = refEnd s k st := by
        rw [he, drop_nil (by omega)]
        rfl
      rw [e1]
      simp -implicitDefEqProofs -dsimp +contextual [-Bool.exists_bool, -Int.not_le, -Int.not_lt, -getElem?_pos, -List.getD_eq_getElem?_getD, h]
      refine WP.loopF mixed [0] (fun j : Nat => ⟨tl [(2, .ptr (0, 0) 0), (5, .ref (1, 0) Dn), (6, I k), (7, B st), (10, I j)], Go.Proofs.Ytjknjekemolndaa.Abs.hl [((0, 0), .box [I Dn, As L]), ((1, 0), .row 3 Dn (dl (s.map (D.int .i64))))], 2⟩) (fun j => j ≤ Dn ∧ ∀ q, q < j → nth s q = 0) (fun j => Dn - j) 0 (by kernel_rfl) ?_ ?_ ?_
      · refine Le.told [] ?_ ?_ ?_ <;> simp [-Bool.exists_bool, -Int.not_le, -Int.not_lt, -getElem?_pos, -List.getD_eq_getElem?_getD]
      · exact ⟨Nat.zero_le _, fun q hq => by omega⟩
      · rintro j ⟨hj, hz⟩
        by_cases hjd : j < Dn
        · refine ⟨_, Le.refl _ _ _, ?_⟩
          have hjs : j < s.length := by omega
          simp -implicitDefEqProofs -dsimp +contextual [-Bool.exists_bool, -Int.not_le, -Int.not_lt, -getElem?_pos, -List.getD_eq_getElem?_getD, hjd, hjs, hsl]
          refine ⟨fun h0 => ?_, fun h0 => RLe.bb ?_⟩
          · refine ⟨j + 1, ⟨hjd, fun q hq => ?_⟩, by omega, ?_⟩
            · by_cases e : q = j
              · rw [e]; exact h0
              · exact hz q (by omega)
            · rw [wr (by omega) (by omega)]
              refine Le.told [] ?_ ?_ ?_ <;> simp [-Bool.exists_bool, -Int.not_le, -Int.not_lt, -getElem?_pos, -List.getD_eq_getElem?_getD]
          · symm
            unfold refEnd
            rw [Bool.and_eq_false_iff]
            left
            rw [List.all_eq_false]
            exact ⟨nth s j, nth_mem hjs, by simpa [-Bool.exists_bool, -Int.not_le, -Int.not_lt, -getElem?_pos, -List.getD_eq_getElem?_getD] using h0⟩
        · refine ⟨_, Le.refl _ _ _, ?_⟩
          simp -implicitDefEqProofs -dsimp +contextual [-Bool.exists_bool, -Int.not_le, -Int.not_lt, -getElem?_pos, -List.getD_eq_getElem?_getD, hjd]
          have hall : s.all (fun x => decide (x = 0)) = true := by
            rw [List.all_eq_true]
            intro x hx
            obtain ⟨q, hq, rfl⟩ := List.getElem_of_mem hx
            have := hz q (by omega)
            rw [nth_eq hq] at this
            simpa [-Bool.exists_bool, -Int.not_le, -Int.not_lt, -getElem?_pos, -List.getD_eq_getElem?_getD] using this
          refine ⟨fun h1 => RLe.bb (by simp [-Bool.exists_bool, -Int.not_le, -Int.not_lt, -getElem?_pos, -List.getD_eq_getElem?_getD, refEnd, hall, h1]), fun h1 => ⟨fun h2 => RLe.bb (by simp [-Bool.exists_bool, -Int.not_le, -Int.not_lt, -getElem?_pos, -List.getD_eq_getElem?_getD, refEnd, hall]), fun h2 => RLe.bb (by simp [-Bool.exists_bool, -Int.not_le, -Int.not_lt, -getElem?_pos, -List.getD_eq_getElem?_getD, refEnd, hall, h1, h2])⟩⟩
end Go.Proofs.Ytjknjekemolndaa.ZL
namespace Go.Proofs.Ytjknjekemolndaa.ZL
open Go Go.Proofs.Ytjknjekemolndaa.Abs Go.Proofs.Ytjknjekemolndaa.Abs.Pl Go.RowKit Go.Proofs
set_option linter.unusedVariables false
set_option linter.unusedSimpArgs false
set_option maxRecDepth 100000
def wV (r : List (Int × Int) × Int) : V := if r.2 = 0 then .tup [.ref (0, 0) r.1.length, I 0] else .tup [.nil, I r.2]
def wH (r : List (Int × Int) × Int) : Store := if r.2 = 0 then hl [((0, 0), .row 49 r.1.length (dl (rsD r.1)))] else hemp
def fix1 (k : Nat) (q : Int × Int) (a : At) : Option At := if (fixA a k q.1 q.2).2.2.2 = true then some (at1 (fixA a k q.1 q.2)) else none
theorem fixes_cons (k : Nat) (q : Int × Int) (p : List (Int × Int)) : fixes k (q :: p) = fun a => (fix1 k q a).bind (fixes (k + 1) p) := by
  funext a
  unfold fix1
  rw [fixes]
  split <;> simp [-Bool.exists_bool, -Int.not_le, -Int.not_lt, -getElem?_pos, -List.getD_eq_getElem?_getD]
theorem iWitnessOf (d : Int) (L : List At) (h20 : L.length ≤ 1048576) : Cn Try.prog 7 [C1 d L] (wV (witD d L)) (wH (witD d L)) := by
  refine Cn.of [0] mixed Try.func7 rfl Try.call7 (by kernel_rfl) rfl ?_
  simp -implicitDefEqProofs -dsimp +contextual [-Bool.exists_bool, -Int.not_le, -Int.not_lt, -getElem?_pos, -List.getD_eq_getElem?_getD, Try.f7]
  have hp := iProjectionsOf d L h20
  unfold witD
  cases hZ : projs d L with
  | none =>
    rw [hZ] at hp
    refine CallJ.pure hp rfl (by simp [-Bool.exists_bool, -Int.not_le, -Int.not_lt, -getElem?_pos, -List.getD_eq_getElem?_getD]) ?_
    simp -implicitDefEqProofs -dsimp +contextual [-Bool.exists_bool, -Int.not_le, -Int.not_lt, -getElem?_pos, -List.getD_eq_getElem?_getD, pV]
    exact RLe.emp (by simp [-Bool.exists_bool, -Int.not_le, -Int.not_lt, -getElem?_pos, -List.getD_eq_getElem?_getD, wV])
  | some Z =>
    rw [hZ] at hp
    obtain ⟨hc, hC, hlast⟩ := projs_ok hZ
    have hd := isCe_d hc
    have hzl := hC.len
    obtain ⟨D, rfl⟩ : ∃ n : Nat, d = n := ⟨d.toNat, by omega⟩
    rw [Int.toNat_natCast] at hC hlast hzl
    refine CallJ.pure hp rfl (by simp [-Bool.exists_bool, -Int.not_le, -Int.not_lt, -getElem?_pos, -List.getD_eq_getElem?_getD]) ?_
    have h1 : (csD Z)[1]? = some (.sl (nth Z 0).2.length (asD (nth Z 0).2)) := by simpa [-Bool.exists_bool, -Int.not_le, -Int.not_lt, -getElem?_pos, -List.getD_eq_getElem?_getD] using csD_get1 Z 0 (by omega)
    simp -implicitDefEqProofs -dsimp +contextual [-Bool.exists_bool, -Int.not_le, -Int.not_lt, -getElem?_pos, -List.getD_eq_getElem?_getD, pV, hzl, h1]
    refine ⟨fun hpos => RLe.emp (by simp [-Bool.exists_bool, -Int.not_le, -Int.not_lt, -getElem?_pos, -List.getD_eq_getElem?_getD, wV, hpos]), fun hpos => ?_⟩
    have hs0 : SatL (xp []) (nth Z 0).2 := fun a ha => by
      have : (nth Z 0).2 = [] := List.eq_nil_of_length_eq_zero (by omega)
      rw [this] at ha; cases ha
    refine WP.loopF mixed [0] (fun p : List (Int × Int) => ⟨tl [(1, .ptr (0, 0) 0), (4, .d (.sl (D + 1) (csD Z))), (6, .ref (1, 0) p.length), (7, I p.length)], hl [((0, 0), .box [I D, As L]), ((1, 0), .row 49 p.length (dl (rsD p)))], 2⟩)
      (fun p => p.length ≤ D ∧ (∀ r ∈ p, isRat r.1 r.2 = true) ∧ SatL (xp p) (nth Z p.length).2 ∧ witGo bI Z D [] = witGo bI Z (D - p.length) p) (fun p => D - p.length) [] (by kernel_rfl) ?_ ?_ ?_
    · refine Le.trans (Le.nil 6 49 (by simp [-Bool.exists_bool, -Int.not_le, -Int.not_lt, -getElem?_pos, -List.getD_eq_getElem?_getD])) (Le.told [((1, 0), (21, 0))] ?_ ?_ ?_) <;> simp [-Bool.exists_bool, -Int.not_le, -Int.not_lt, -getElem?_pos, -List.getD_eq_getElem?_getD, setH]
      done
    · exact ⟨Nat.zero_le _, by simp [-Bool.exists_bool, -Int.not_le, -Int.not_lt, -getElem?_pos, -List.getD_eq_getElem?_getD], hs0, rfl⟩
    · intro p
      rintro ⟨hp, hpr, hps, hpw⟩
      by_cases hpD : p.length = D
      · refine ⟨_, Le.refl _ _ _, ?_⟩
        rw [show D - p.length = 0 by omega, witGo] at hpw
        simp -implicitDefEqProofs -dsimp +contextual [-Bool.exists_bool, -Int.not_le, -Int.not_lt, -getElem?_pos, -List.getD_eq_getElem?_getD, hpD]
        rw [if_neg hpos, hpw]
        have eV : wV (p, 0) = V.tup [.ref (0, 0) p.length, I 0] := if_pos rfl
        have eH : wH (p, 0) = hl [((0, 0), .row 49 p.length (dl (rsD p)))] := if_pos rfl
        change RLe _ _ _ (wV (p, 0)) (wH (p, 0))
        rw [eV, eH]
        refine RLe.told [((0, 0), (1, 0))] ?_ ?_ ?_ <;> simp [-Bool.exists_bool, -Int.not_le, -Int.not_lt, -getElem?_pos, -List.getD_eq_getElem?_getD, hpD]
      · have hpl : p.length < D := by omega
        refine ⟨_, Le.refl _ _ _, ?_⟩
        have w1 : IntKind.wrap .i64 ((p.length : Int) + 1) = (p.length : Int) + 1 := wr (by omega) (by omega)
        have t1 : ((p.length : Int) + 1).toNat = p.length + 1 := by omega
        have hcut : (csD (Z.drop (p.length + 1))).take 2 = cD (nth Z (p.length + 1)) := csD_cutD _ _ (by omega)
        have hdim := hC.dim (p.length + 1) (by omega)
        have hx16 := hC.l16 (p.length + 1) (by omega)
        have hxok := hC.ok (p.length + 1) (by omega)
        obtain ⟨m, hm⟩ : ∃ m, D - p.length = m + 1 := ⟨D - p.length - 1, by omega⟩
        rw [hm, witGo] at hpw
        have hstep := fun {M : List At} => wit_step (M := M) (Int.toNat_natCast D).symm hd hC hpl rfl hps
        have hD := hpl
        generalize hV : p.length = v at *
        generalize hcg : nth Z (v + 1) = c at *
        obtain ⟨c1, x⟩ := c
        simp only at hdim hx16 hxok hstep hpw
        subst hdim
        simp -implicitDefEqProofs -dsimp +contextual [-Bool.exists_bool, -Int.not_le, -Int.not_lt, -getElem?_pos, -List.getD_eq_getElem?_getD, hpl, w1, t1, hcut, hzl]
        refine ⟨by omega, by omega, ?_⟩
        refine CallJ.pure (iCopyCell D x (by omega) (fun a ha => okA_small (hxok a ha))) rfl (by simp [-Bool.exists_bool, -Int.not_le, -Int.not_lt, -getElem?_pos, -List.getD_eq_getElem?_getD]) ?_
        simp -implicitDefEqProofs -dsimp +contextual [-Bool.exists_bool, -Int.not_le, -Int.not_lt, -getElem?_pos, -List.getD_eq_getElem?_getD, hpl]
        have hpv : p.length = v := hV
        refine WP.loopF mixed [0] (fun q : Nat × List At => ⟨tl [(1, .ptr (0, 0) 0), (4, .d (.sl (D + 1) (csD Z))), (6, .ref (1, 0) v), (7, I v), (8, .ptr (2, 0) 0), (42, .ref (1, 0) v), (43, I v), (44, I q.1)], hl [((0, 0), .box [I D, As L]), ((1, 0), .row 49 v (dl (rsD p))), ((2, 0), .box [I D, .ref (3, 0) x.length]), ((3, 0), .row 51 x.length (dl (asD q.2)))], 4⟩)
          (fun q => q.1 ≤ v ∧ q.2.length = x.length ∧ allOk D q.2 ∧ mapO (fixes 0 p) x = mapO (fixes q.1 (p.drop q.1)) q.2) (fun q => v - q.1) (0, x) (by kernel_rfl) ?_ ?_ ?_
        · refine Le.told [((2, 0), (12, 0)), ((3, 0), (11, 0))] ?_ ?_ ?_ <;> simp [-Bool.exists_bool, -Int.not_le, -Int.not_lt, -getElem?_pos, -List.getD_eq_getElem?_getD, setH]
          done
        · exact ⟨Nat.zero_le _, rfl, hxok, rfl⟩
        · rintro ⟨w, C⟩ ⟨hw, hCl, hCo, hCe⟩
          simp only at hw hCl hCo hCe
          by_cases hwv : w < v
          · refine ⟨_, Le.refl _ _ _, ?_⟩
            have hwp : w < p.length := by omega
            have hr2 : w * 2 + 2 ≤ v * 2 := by omega
            simp -implicitDefEqProofs -dsimp +contextual [-Bool.exists_bool, -Int.not_le, -Int.not_lt, -getElem?_pos, -List.getD_eq_getElem?_getD, hpl, hwv, hr2, hpv]
            rw [nth_drop hwp, fixes_cons, mapO_comp] at hCe
            generalize hq : nth p w = q at *
            refine WP.loopF mixed [0] (fun r : Nat × List At => ⟨tl [(1, .ptr (0, 0) 0), (4, .d (.sl (D + 1) (csD Z))), (6, .ref (1, 0) v), (7, I v), (8, .ptr (2, 0) 0), (9, I w), (10, .ptr (4, 0) 0), (42, .ref (1, 0) v), (43, I v), (44, I w), (50, .ref (3, 0) x.length), (51, I x.length), (52, I r.1)], hl [((0, 0), .box [I D, As L]), ((1, 0), .row 49 v (dl (rsD p))), ((2, 0), .box [I D, .ref (3, 0) x.length]), ((3, 0), .row 51 x.length (dl (asD (r.2 ++ C.drop r.1)))), ((4, 0), .box [I q.1, I q.2])], 5⟩)
              (fun r => r.1 ≤ x.length ∧ r.2.length = r.1 ∧ allOk D r.2 ∧ mapO (fix1 w q) C = (mapO (fix1 w q) (C.drop r.1)).map (r.2 ++ ·)) (fun r => x.length - r.1) (0, []) (by kernel_rfl) ?_ ?_ ?_
            · refine Le.told [((4, 0), (8, 0))] ?_ ?_ ?_ <;> simp [-Bool.exists_bool, -Int.not_le, -Int.not_lt, -getElem?_pos, -List.getD_eq_getElem?_getD, setH]
              done
            · refine ⟨Nat.zero_le _, rfl, ?_, by simp [-Bool.exists_bool, -Int.not_le, -Int.not_lt, -getElem?_pos, -List.getD_eq_getElem?_getD]⟩
              intro y hy
              simp [-Bool.exists_bool, -Int.not_le, -Int.not_lt, -getElem?_pos, -List.getD_eq_getElem?_getD] at hy
            · rintro ⟨i, M⟩ ⟨hi, hM, hMo, hMe⟩
              simp only at hi hM hMo hMe
              by_cases hix : i < x.length
              · refine ⟨_, Le.refl _ _ _, ?_⟩
                have hiC : i < C.length := by omega
                have hcl : (M ++ C.drop i).length = x.length := by simp [-Bool.exists_bool, -Int.not_le, -Int.not_lt, -getElem?_pos, -List.getD_eq_getElem?_getD]; omega
                have hni : nth (M ++ C.drop i) i = nth C i := by
                  rw [nth_eq (by omega), List.getElem_append_right (by omega), nth_eq hiC]
                  simp [-Bool.exists_bool, -Int.not_le, -Int.not_lt, -getElem?_pos, -List.getD_eq_getElem?_getD, hM]
                simp -implicitDefEqProofs -dsimp +contextual [-Bool.exists_bool, -Int.not_le, -Int.not_lt, -getElem?_pos, -List.getD_eq_getElem?_getD, hpl, hwv, hix, hcl, hni]
                have hao := hCo _ (nth_mem hiC)
                have hF := iFixVariable (nth C i) w q.1 q.2 (okA_small hao)
                have hfo := fixA_ok (v := w) (n := q.1) (e := q.2) hao
                rw [nth_drop hiC, mapO, fix1] at hMe
                generalize fixA (nth C i) w q.1 q.2 = f at hF hfo hMe
                obtain ⟨f1, f2, f3, f4⟩ := f
                simp only [at1] at hfo hMe
                refine CallJ.pure hF rfl (by simp [-Bool.exists_bool, -Int.not_le, -Int.not_lt, -getElem?_pos, -List.getD_eq_getElem?_getD]) ?_
                simp -implicitDefEqProofs -dsimp +contextual [-Bool.exists_bool, -Int.not_le, -Int.not_lt, -getElem?_pos, -List.getD_eq_getElem?_getD, hpl, hwv, hix, hcl]
                have t1 : (M ++ C.drop i).take i = M := by rw [← hM]; simp [-Bool.exists_bool, -Int.not_le, -Int.not_lt, -getElem?_pos, -List.getD_eq_getElem?_getD]
                have t2 : (M ++ C.drop i).drop (i + 1) = C.drop (i + 1) := by rw [← hM]; simp [-Bool.exists_bool, -Int.not_le, -Int.not_lt, -getElem?_pos, -List.getD_eq_getElem?_getD]
                refine ⟨fun hf => ?_, fun hf => ?_⟩
                · rw [if_pos hf] at hMe
                  refine ⟨i + 1, M ++ [(f1, f2, f3)], ⟨hix, by simp [-Bool.exists_bool, -Int.not_le, -Int.not_lt, -getElem?_pos, -List.getD_eq_getElem?_getD, hM], ?_, ?_⟩, by omega, ?_⟩
                  · intro y hy
                    rcases List.mem_append.1 hy with hy | hy
                    · exact hMo y hy
                    · rw [List.mem_singleton.1 hy]; exact hfo hf
                  · rw [hMe]
                    cases mapO (fix1 w q) (C.drop (i + 1)) <;> simp [-Bool.exists_bool, -Int.not_le, -Int.not_lt, -getElem?_pos, -List.getD_eq_getElem?_getD]
                  · rw [wr (by omega) (by omega)]
                    refine Le.told [] ?_ ?_ ?_ <;> simp [-Bool.exists_bool, -Int.not_le, -Int.not_lt, -getElem?_pos, -List.getD_eq_getElem?_getD, t1]
                    rw [t2, asD_append, asD_cons]
                    simp [-Bool.exists_bool, -Int.not_le, -Int.not_lt, -getElem?_pos, -List.getD_eq_getElem?_getD, aD]
                · rw [if_neg (by simp [-Bool.exists_bool, -Int.not_le, -Int.not_lt, -getElem?_pos, -List.getD_eq_getElem?_getD, hf])] at hMe
                  rw [hMe] at hCe
                  rw [hCe] at hpw
                  rw [if_neg hpos, hpw]
                  exact RLe.emp (by simp [-Bool.exists_bool, -Int.not_le, -Int.not_lt, -getElem?_pos, -List.getD_eq_getElem?_getD, wV])
              · refine ⟨_, Le.refl _ _ _, ?_⟩
                have hxi : i = x.length := by omega
                rw [drop_nil (by omega), mapO] at hMe
                have hMe : mapO (fix1 w q) C = some M := by rw [hMe]; simp [-Bool.exists_bool, -Int.not_le, -Int.not_lt, -getElem?_pos, -List.getD_eq_getElem?_getD]
                rw [hMe, Option.bind_some] at hCe
                simp -implicitDefEqProofs -dsimp +contextual [-Bool.exists_bool, -Int.not_le, -Int.not_lt, -getElem?_pos, -List.getD_eq_getElem?_getD, hpl, hwv, hix]
                refine ⟨w + 1, M, ⟨hwv, by omega, hMo, hCe⟩, by omega, ?_⟩
                rw [wr (by omega) (by omega), drop_nil (by omega), List.append_nil]
                refine Le.told [] ?_ ?_ ?_ <;> simp [-Bool.exists_bool, -Int.not_le, -Int.not_lt, -getElem?_pos, -List.getD_eq_getElem?_getD]
          · refine ⟨_, Le.refl _ _ _, ?_⟩
            simp -implicitDefEqProofs -dsimp +contextual [-Bool.exists_bool, -Int.not_le, -Int.not_lt, -getElem?_pos, -List.getD_eq_getElem?_getD, hpl, hwv]
            have hid : fixes w [] = some := by funext a; rfl
            rw [drop_nil (by omega), hid, mapO_id] at hCe
            obtain ⟨⟨hm16, hmo⟩, hsame, hnext⟩ := hstep hCe
            rw [hCe] at hpw
            simp only at hpw
            have hB := iBoundsIn D C v (by omega) hm16 hmo
            change Cn _ _ _ (bdV (bI v C)) _ at hB
            refine CallJ.lent (ks := [(3, 0)]) 2 hB (by simp [-Bool.exists_bool, -Int.not_le, -Int.not_lt, -getElem?_pos, -List.getD_eq_getElem?_getD, lendVs, lendV, hCl]) (by simp [-Bool.exists_bool, -Int.not_le, -Int.not_lt, -getElem?_pos, -List.getD_eq_getElem?_getD]) rfl (by simp [-Bool.exists_bool, -Int.not_le, -Int.not_lt, -getElem?_pos, -List.getD_eq_getElem?_getD]) ?_
            simp -implicitDefEqProofs -dsimp +contextual [-Bool.exists_bool, -Int.not_le, -Int.not_lt, -getElem?_pos, -List.getD_eq_getElem?_getD, hpl]
            refine CallJ.pure (iChosen (bI v C)) rfl (by simp [-Bool.exists_bool, -Int.not_le, -Int.not_lt, -getElem?_pos, -List.getD_eq_getElem?_getD]) ?_
            generalize chooseR (bI v C) = r at hnext hpw
            simp -implicitDefEqProofs -dsimp +contextual [-Bool.exists_bool, -Int.not_le, -Int.not_lt, -getElem?_pos, -List.getD_eq_getElem?_getD, hpl]
            refine CallJ.pure (iIsRatio r.1 r.2) rfl (by simp [-Bool.exists_bool, -Int.not_le, -Int.not_lt, -getElem?_pos, -List.getD_eq_getElem?_getD]) ?_
            simp -implicitDefEqProofs -dsimp +contextual [-Bool.exists_bool, -Int.not_le, -Int.not_lt, -getElem?_pos, -List.getD_eq_getElem?_getD, hpl]
            refine ⟨fun hr => ?_, fun hr => ?_⟩
            · rw [if_pos hr] at hpw
              refine ⟨⟨by omega, by simp [-Bool.exists_bool, -Int.not_le, -Int.not_lt, -getElem?_pos, -List.getD_eq_getElem?_getD, maxLen]; omega⟩, p ++ [r], ⟨by simp [-Bool.exists_bool, -Int.not_le, -Int.not_lt, -getElem?_pos, -List.getD_eq_getElem?_getD]; omega, fun a b hq => ?_, ?_, ?_⟩, by simp [-Bool.exists_bool, -Int.not_le, -Int.not_lt, -getElem?_pos, -List.getD_eq_getElem?_getD]; omega, ?_⟩
              · rcases List.mem_append.1 hq with hq | hq
                · exact hpr (a, b) hq
                · have := List.mem_singleton.1 hq
                  rw [← this] at hr; exact hr
              · have e : (p ++ [r]).length = v + 1 := by simp [-Bool.exists_bool, -Int.not_le, -Int.not_lt, -getElem?_pos, -List.getD_eq_getElem?_getD]; omega
                rw [e, hcg]; exact hnext hr
              · rw [hpw]; congr 1; simp [-Bool.exists_bool, -Int.not_le, -Int.not_lt, -getElem?_pos, -List.getD_eq_getElem?_getD]; omega
              · rw [wr (by omega) (by omega)]
                refine Le.told [((1, 0), (17, 0))] ?_ ?_ ?_ <;> simp [-Bool.exists_bool, -Int.not_le, -Int.not_lt, -getElem?_pos, -List.getD_eq_getElem?_getD, rsD_append, rsD_cons, rD, hpv]
            · rw [if_neg (by simp [-Bool.exists_bool, -Int.not_le, -Int.not_lt, -getElem?_pos, -List.getD_eq_getElem?_getD, hr])] at hpw
              rw [if_neg hpos, hpw]
              exact RLe.emp (by simp [-Bool.exists_bool, -Int.not_le, -Int.not_lt, -getElem?_pos, -List.getD_eq_getElem?_getD, wV])
theorem iWitnessOfW (d : Int) (L : List At) (h20 : L.length ≤ 1048576) : Cn Try.prog 7 [C1 d L] (WR (witD d L)) hemp := by
  have h := iWitnessOf d L h20
  have h0 : (witD d L).2 ≠ 0 → (witD d L).1 = [] := by
    unfold witD
    cases projs d L with
    | none => intro _; rfl
    | some Z =>
      dsimp only
      split
      · intro _; rfl
      · cases witGo bI Z d.toNat [] with
        | none => intro _; rfl
        | some p => intro h; exact absurd rfl h
  generalize witD d L = r at h h0
  obtain ⟨p, n⟩ := r
  simp only at h0
  by_cases hn : n = 0
  · subst hn
    rw [wV, wH, if_pos rfl, if_pos rfl] at h
    exact Cn.freeze 3 h (by simp [-Bool.exists_bool, -Int.not_le, -Int.not_lt, -getElem?_pos, -List.getD_eq_getElem?_getD, lendT, lendV])
  · rw [wV, wH, if_neg hn, if_neg hn] at h
    rw [h0 hn]
    exact h.res (RLe.emp (by simp [-Bool.exists_bool, -Int.not_le, -Int.not_lt, -getElem?_pos, -List.getD_eq_getElem?_getD]))
end Go.Proofs.Ytjknjekemolndaa.ZL
namespace Go.Proofs.Ytjknjekemolndaa.ZL
open Go Go.Proofs.Ytjknjekemolndaa.Abs Go.Proofs.Ytjknjekemolndaa.Abs.Pl Go.RowKit Go.Proofs
set_option linter.unusedVariables false
set_option linter.unusedSimpArgs false
set_option linter.unnecessarySimpa false
set_option maxRecDepth 100000
def numF (cd : List Int) (m : Int) (c : Cu) : Int × Cu := if (belowF cd 40 c).1 = 0 then pickF cd oddL (belowF cd 40 c).2 else ((belowF cd (2 * m + 1) (belowF cd 40 c).2).1 - m, (belowF cd (2 * m + 1) (belowF cd 40 c).2).2)
theorem numF_cu (cd : List Int) (m : Int) (c : Cu) (h : c.1 ≤ cd.length) : (numF cd m c).2.1 ≤ cd.length := by
  have h1 := belowF_cu cd 40 c h
  unfold numF
  split
  · exact belowF_cu _ _ _ h1
  · exact belowF_cu _ _ _ h1
theorem l1Num (cd : List Int) (c : Cu) (hc : c.1 ≤ cd.length) (h20 : cd.length ≤ 1048576) : Cm Try.prog 32 cA [.ptr (0, 1) 0, I 2] (cuH cd c) (I (numF cd 2 c).1) (cuH cd (numF cd 2 c).2) := by
  refine Cm.of [] mixed Try.func32 rfl Try.call32 (by kernel_rfl) rfl ?_
  simp -implicitDefEqProofs -dsimp +contextual [-Bool.exists_bool, -Int.not_le, -Int.not_lt, -getElem?_pos, -List.getD_eq_getElem?_getD, Try.f32]
  have hc1 := belowF_cu cd 40 c hc
  refine callOnce 40 (0, 1) hc h20 (by simp [-Bool.exists_bool, -Int.not_le, -Int.not_lt, -getElem?_pos, -List.getD_eq_getElem?_getD]) (by simp [-Bool.exists_bool, -Int.not_le, -Int.not_lt, -getElem?_pos, -List.getD_eq_getElem?_getD]) (by simp [-Bool.exists_bool, -Int.not_le, -Int.not_lt, -getElem?_pos, -List.getD_eq_getElem?_getD]) ?_
  unfold numF
  generalize belowF cd 40 c = y at *
  obtain ⟨x, c1⟩ := y
  simp only at hc1 ⊢
  simp -implicitDefEqProofs -dsimp +contextual [-Bool.exists_bool, -Int.not_le, -Int.not_lt, -getElem?_pos, -List.getD_eq_getElem?_getD]
  refine ⟨fun h0 => ?_, fun h0 => ?_⟩
  · refine callOdd (0, 1) hc1 h20 (by simp [-Bool.exists_bool, -Int.not_le, -Int.not_lt, -getElem?_pos, -List.getD_eq_getElem?_getD, setH]) (by simp [-Bool.exists_bool, -Int.not_le, -Int.not_lt, -getElem?_pos, -List.getD_eq_getElem?_getD]) (by simp [-Bool.exists_bool, -Int.not_le, -Int.not_lt, -getElem?_pos, -List.getD_eq_getElem?_getD]) ?_
    simp -implicitDefEqProofs -dsimp +contextual [-Bool.exists_bool, -Int.not_le, -Int.not_lt, -getElem?_pos, -List.getD_eq_getElem?_getD]
    refine RLm.told ?_ ?_ ?_
    · simp [-Bool.exists_bool, -Int.not_le, -Int.not_lt, -getElem?_pos, -List.getD_eq_getElem?_getD, h0]
    · simp [-Bool.exists_bool, -Int.not_le, -Int.not_lt, -getElem?_pos, -List.getD_eq_getElem?_getD, allK]
    · simp [-Bool.exists_bool, -Int.not_le, -Int.not_lt, -getElem?_pos, -List.getD_eq_getElem?_getD, okKey, allKE, allKs, allK, cA, setH, h0]
  · refine callBelow 5 (0, 1) hc1 h20 (by simp [-Bool.exists_bool, -Int.not_le, -Int.not_lt, -getElem?_pos, -List.getD_eq_getElem?_getD, setH]) (by simp [-Bool.exists_bool, -Int.not_le, -Int.not_lt, -getElem?_pos, -List.getD_eq_getElem?_getD]) (by simp [-Bool.exists_bool, -Int.not_le, -Int.not_lt, -getElem?_pos, -List.getD_eq_getElem?_getD]) ?_
    have hb := belowF_bd cd (n := 5) c1 (by omega)
    simp -implicitDefEqProofs -dsimp +contextual [-Bool.exists_bool, -Int.not_le, -Int.not_lt, -getElem?_pos, -List.getD_eq_getElem?_getD]
    rw [wr (x := (belowF cd 5 c1).1 - 2) (by omega) (by omega)]
    refine RLm.told ?_ ?_ ?_
    · simp [-Bool.exists_bool, -Int.not_le, -Int.not_lt, -getElem?_pos, -List.getD_eq_getElem?_getD, h0]
    · simp [-Bool.exists_bool, -Int.not_le, -Int.not_lt, -getElem?_pos, -List.getD_eq_getElem?_getD, allK]
    · simp [-Bool.exists_bool, -Int.not_le, -Int.not_lt, -getElem?_pos, -List.getD_eq_getElem?_getD, okKey, allKE, allKs, allK, cA, setH, h0]
theorem callNum {N nx s : Nat} {H : Store} {K : Eff → Prop} {cd : List Int} {c : Cu} (kb : Key) (hc : c.1 ≤ cd.length) (h20 : cd.length ≤ 1048576) (hH : H kb = some (cuE cd c)) (hs : kb.1 ≠ s) (hn : kb.1 < nx) (hk : K ⟨I (numF cd 2 c).1, [kb], [kb], up1 kb (some (cuE cd (numF cd 2 c).2)) noUp⟩) :
    CallJ Try.prog N nx s H 32 [.ptr kb 0, I 2] K := callCu kb (l1Num cd c hc h20) (fun g => rfl) (fun _ => by simp [-Bool.exists_bool, -Int.not_le, -Int.not_lt, -getElem?_pos, -List.getD_eq_getElem?_getD, allKs, allK]) (fun g => rfl) hH hs hn hk
def newC (cd : List Int) : Cu := (0, newF cd (newN cd))
theorem newC_ok (cd : List Int) : (newC cd).1 ≤ cd.length := Nat.zero_le _
theorem callCu2 {N nx s f : Nat} {H : Store} {K : Eff → Prop} {cd : List Int} {c c' : Cu} {r : V} {vs : List V} (kb : Key) (h : Cm Try.prog f cA (.ptr (0, 1) 0 :: vs) (cuH cd c) r (cuH cd c')) (hv : ∀ g : Key → Key, mapL g vs = vs) (hvk : ∀ p : Key → Prop, allKs p vs) (hr : ∀ g : Key → Key, mapK g r = r)
    (hH : H kb = some (cuE cd c)) (hs : kb.1 ≠ s) (hk : K ⟨r, [kb], [kb], up1 kb (some (cuE cd c')) noUp⟩) : CallJ Try.prog N nx s H f (.ptr kb 0 :: vs) K := by
  have hup : upMut (fun _ => kb) (fun k => if k = kb then some 0 else none) s (cuH cd c') = up1 kb (some (cuE cd c')) noUp := by
    funext k
    unfold upMut up1
    by_cases h1 : k = kb
    · subst h1
      rw [if_neg hs, if_pos rfl]
      simp [-Bool.exists_bool, -Int.not_le, -Int.not_lt, -getElem?_pos, -List.getD_eq_getElem?_getD, mapE]
    · rw [if_neg h1]
      simp [-Bool.exists_bool, -Int.not_le, -Int.not_lt, -getElem?_pos, -List.getD_eq_getElem?_getD, h1, noUp]
  rw [← hup] at hk
  refine CallJ.mut (fun _ => kb) (fun k => if k = kb then some 0 else none) [kb] [] h ?_ ?_ ?_ ?_ ?_ ?_ ?_ ?_ (by rw [hr]; simpa [-Bool.exists_bool, -Int.not_le, -Int.not_lt, -getElem?_pos, -List.getD_eq_getElem?_getD] using hk)
  · simp [-Bool.exists_bool, -Int.not_le, -Int.not_lt, -getElem?_pos, -List.getD_eq_getElem?_getD, gk, hv]
  · simp [-Bool.exists_bool, -Int.not_le, -Int.not_lt, -getElem?_pos, -List.getD_eq_getElem?_getD, allKs, allK, hvk, cA]
  · rintro k rfl; simp [-Bool.exists_bool, -Int.not_le, -Int.not_lt, -getElem?_pos, -List.getD_eq_getElem?_getD, hH]
  · intro k e h
    simp [-Bool.exists_bool, -Int.not_le, -Int.not_lt, -getElem?_pos, -List.getD_eq_getElem?_getD] at h
    obtain ⟨rfl, rfl⟩ := h
    simp [-Bool.exists_bool, -Int.not_le, -Int.not_lt, -getElem?_pos, -List.getD_eq_getElem?_getD, hH, mapE, allKE, allKs, allK, cA]
  · intro k j h
    simp [-Bool.exists_bool, -Int.not_le, -Int.not_lt, -getElem?_pos, -List.getD_eq_getElem?_getD] at h
    obtain ⟨rfl, rfl⟩ := h
    simp [-Bool.exists_bool, -Int.not_le, -Int.not_lt, -getElem?_pos, -List.getD_eq_getElem?_getD]
  · simp [-Bool.exists_bool, -Int.not_le, -Int.not_lt, -getElem?_pos, -List.getD_eq_getElem?_getD]
  · intro k e h
    simp [-Bool.exists_bool, -Int.not_le, -Int.not_lt, -getElem?_pos, -List.getD_eq_getElem?_getD] at h
    obtain ⟨rfl, rfl⟩ := h
    simp [-Bool.exists_bool, -Int.not_le, -Int.not_lt, -getElem?_pos, -List.getD_eq_getElem?_getD]
  · simp [-Bool.exists_bool, -Int.not_le, -Int.not_lt, -getElem?_pos, -List.getD_eq_getElem?_getD, hH, slotsL, slotsV]
theorem callAny2 {N nx s : Nat} {H : Store} {K : Eff → Prop} {cd : List Int} {c : Cu} (kb : Key) (hc : c.1 ≤ cd.length) (h20 : cd.length ≤ 1048576) (hH : H kb = some (cuE cd c)) (hs : kb.1 ≠ s) (hk : K ⟨C1 (anF cd c).1.1 (anF cd c).1.2, [kb], [kb], up1 kb (some (cuE cd (anF cd c).2)) noUp⟩) :
    CallJ Try.prog N nx s H 15 [.ptr kb 0] K := callCu2 kb (l3Any cd c hc h20) (fun g => rfl) (fun _ => by simp [-Bool.exists_bool, -Int.not_le, -Int.not_lt, -getElem?_pos, -List.getD_eq_getElem?_getD, allKs, allK]) (fun g => rfl) hH hs hk
theorem big (cd : List Int) : Cn Try.prog 5 [Bs cd] (B (decide (1048576 < cd.length))) hemp := by
  refine Cn.of [] mixed Try.func5 rfl Try.call5 (by kernel_rfl) rfl ?_
  simp -implicitDefEqProofs -dsimp +contextual [-Bool.exists_bool, -Int.not_le, -Int.not_lt, -getElem?_pos, -List.getD_eq_getElem?_getD, Try.f5]
  exact RLe.bb (by congr 1; simp [-Bool.exists_bool, -Int.not_le, -Int.not_lt, -getElem?_pos, -List.getD_eq_getElem?_getD]; omega)
theorem DrawWitnessOf (cd : List Int) (h20 : cd.length ≤ 1048576) : Cn Try.prog 6 [Bs cd] (C1 (anF cd (newC cd)).1.1 (anF cd (newC cd)).1.2) hemp := by
  refine Cn.of [] mixed Try.func6 rfl Try.call6 (by kernel_rfl) rfl ?_
  simp -implicitDefEqProofs -dsimp +contextual [-Bool.exists_bool, -Int.not_le, -Int.not_lt, -getElem?_pos, -List.getD_eq_getElem?_getD, Try.f6]
  have hN := l1New cd h20
  change Cn Try.prog 16 [Bs cd] (.ptr (0, 0) 0) (hl [((0, 0), cuE cd (newC cd))]) at hN
  refine CallJ.pure hN rfl (by simp [-Bool.exists_bool, -Int.not_le, -Int.not_lt, -getElem?_pos, -List.getD_eq_getElem?_getD]) ?_
  simp -implicitDefEqProofs -dsimp +contextual [-Bool.exists_bool, -Int.not_le, -Int.not_lt, -getElem?_pos, -List.getD_eq_getElem?_getD]
  refine callAny2 (2, 0) (newC_ok cd) h20 (by simp [-Bool.exists_bool, -Int.not_le, -Int.not_lt, -getElem?_pos, -List.getD_eq_getElem?_getD, setH]) (by simp [-Bool.exists_bool, -Int.not_le, -Int.not_lt, -getElem?_pos, -List.getD_eq_getElem?_getD]) ?_
  simp -implicitDefEqProofs -dsimp +contextual [-Bool.exists_bool, -Int.not_le, -Int.not_lt, -getElem?_pos, -List.getD_eq_getElem?_getD]
  exact RLe.pure 3 (by simp [-Bool.exists_bool, -Int.not_le, -Int.not_lt, -getElem?_pos, -List.getD_eq_getElem?_getD, setH])
def numL (cd : List Int) : Nat → List Int → Cu → List Int × Cu
  | 0, m, c => (m, c)
  | n + 1, m, c => numL cd n (m ++ [(numF cd 2 c).1]) (numF cd 2 c).2
theorem numL_len (cd : List Int) : ∀ (n : Nat) (m : List Int) (c : Cu), (numL cd n m c).1.length = m.length + n
  | 0, m, c => rfl
  | n + 1, m, c => by
    rw [numL, numL_len cd n]
    simp [-Bool.exists_bool, -Int.not_le, -Int.not_lt, -getElem?_pos, -List.getD_eq_getElem?_getD]; omega
def mulF (cd : List Int) (x : Ce) (c : Cu) : List Int :=
  if (refS x.1 x.2).2 = true then (if (belowF cd 4 c).1 = 0 then (numL cd x.2.length [] (belowF cd 4 c).2).1 else (refS x.1 x.2).1) else (numL cd x.2.length [] c).1
theorem DrawIsRefuted (cd : List Int) (h20 : cd.length ≤ 1048576) : Cn Try.prog 13 [Bs cd] (.tup [C1 (anF cd (newC cd)).1.1 (anF cd (newC cd)).1.2, Is (mulF cd (anF cd (newC cd)).1 (anF cd (newC cd)).2)]) hemp := by
  have hN := l1New cd h20
  change Cn Try.prog 16 [Bs cd] (.ptr (0, 0) 0) (hl [((0, 0), cuE cd (newC cd))]) at hN
  have hx := anF_ok cd (newC cd) (newC_ok cd)
  refine Cn.of [] mixed Try.func13 rfl Try.call13 (by kernel_rfl) rfl ?_
  simp -implicitDefEqProofs -dsimp +contextual [-Bool.exists_bool, -Int.not_le, -Int.not_lt, -getElem?_pos, -List.getD_eq_getElem?_getD, Try.f13]
  refine CallJ.pure hN rfl (by simp [-Bool.exists_bool, -Int.not_le, -Int.not_lt, -getElem?_pos, -List.getD_eq_getElem?_getD]) ?_
  simp -implicitDefEqProofs -dsimp +contextual [-Bool.exists_bool, -Int.not_le, -Int.not_lt, -getElem?_pos, -List.getD_eq_getElem?_getD]
  refine callAny (3, 0) (newC_ok cd) h20 (by simp [-Bool.exists_bool, -Int.not_le, -Int.not_lt, -getElem?_pos, -List.getD_eq_getElem?_getD, setH]) (by simp [-Bool.exists_bool, -Int.not_le, -Int.not_lt, -getElem?_pos, -List.getD_eq_getElem?_getD]) (by simp [-Bool.exists_bool, -Int.not_le, -Int.not_lt, -getElem?_pos, -List.getD_eq_getElem?_getD]) ?_
  generalize anF cd (newC cd) = y at *
  obtain ⟨⟨d, L⟩, c⟩ := y
  simp -implicitDefEqProofs -dsimp +contextual [-Bool.exists_bool, -Int.not_le, -Int.not_lt, -getElem?_pos, -List.getD_eq_getElem?_getD]
  refine CallJ.pure (RefuteCell d L (by have := hx.1.1; simp only at this; omega)) rfl (by simp [-Bool.exists_bool, -Int.not_le, -Int.not_lt, -getElem?_pos, -List.getD_eq_getElem?_getD]) ?_
  unfold mulF
  simp only
  generalize refS d L = r
  obtain ⟨m0, f⟩ := r
  simp -implicitDefEqProofs -dsimp +contextual [-Bool.exists_bool, -Int.not_le, -Int.not_lt, -getElem?_pos, -List.getD_eq_getElem?_getD]
  have hc := hx.2
  have h100 := hx.1.1
  simp only at hc h100
  cases f with
  | true =>
    refine ⟨fun _ => ?_, fun h => by cases h⟩
    refine callOnce 4 (3, 0) hc h20 (by simp [-Bool.exists_bool, -Int.not_le, -Int.not_lt, -getElem?_pos, -List.getD_eq_getElem?_getD, setH]) (by simp [-Bool.exists_bool, -Int.not_le, -Int.not_lt, -getElem?_pos, -List.getD_eq_getElem?_getD]) (by simp [-Bool.exists_bool, -Int.not_le, -Int.not_lt, -getElem?_pos, -List.getD_eq_getElem?_getD]) ?_
    have hc4 := belowF_cu cd 4 c hc
    generalize belowF cd 4 c = y at *
    obtain ⟨x4, c4⟩ := y
    simp only at hc4
    simp -implicitDefEqProofs -dsimp +contextual [-Bool.exists_bool, -Int.not_le, -Int.not_lt, -getElem?_pos, -List.getD_eq_getElem?_getD]
    refine ⟨fun h4 => ?_, fun h4 => RLe.pure 3 (by simp [-Bool.exists_bool, -Int.not_le, -Int.not_lt, -getElem?_pos, -List.getD_eq_getElem?_getD, setH, h4])⟩
    rw [if_pos rfl, if_pos h4]
    refine WP.loop mixed [] (fun p : Nat × List Int × Cu => ⟨tl [(2, .ptr (0, 0) 0), (4, .ptr (3, 0) 0), (5, .ptr (7, 0) 0), (6, .ref (8, 0) p.2.1.length), (8, I p.1)], hl [((0, 0), .box [I 0, .nil]), ((3, 0), cuE cd p.2.2), ((7, 0), .box [I d, As L]), ((8, 0), .row 3 p.2.1.length (dl (p.2.1.map (D.int .i64))))], 9⟩)
      (fun p => p.1 ≤ L.length ∧ p.2.1.length = p.1 ∧ p.2.2.1 ≤ cd.length ∧ (numL cd L.length [] c4).1 = (numL cd (L.length - p.1) p.2.1 p.2.2).1) (fun p => L.length - p.1) (0, [], c4) (by kernel_rfl) ?_ ?_ ?_
    · refine Le.trans (Le.nil 6 3 (by simp [-Bool.exists_bool, -Int.not_le, -Int.not_lt, -getElem?_pos, -List.getD_eq_getElem?_getD])) (Le.told [((8, 0), (25, 0))] ?_ ?_ ?_) <;> simp [-Bool.exists_bool, -Int.not_le, -Int.not_lt, -getElem?_pos, -List.getD_eq_getElem?_getD, setH]
    · exact ⟨Nat.zero_le _, rfl, hc4, rfl⟩
    · rintro ⟨i, m, c'⟩ ⟨hi, hm, hc', he⟩
      simp only at hi hm hc' he
      by_cases h : i < L.length
      · obtain ⟨k, hk⟩ : ∃ k, L.length - i = k + 1 := ⟨L.length - i - 1, by omega⟩
        rw [hk, numL] at he
        have hcn := numF_cu cd 2 c' hc'
        simp -implicitDefEqProofs -dsimp +contextual [-Bool.exists_bool, -Int.not_le, -Int.not_lt, -getElem?_pos, -List.getD_eq_getElem?_getD, h]
        refine callNum (3, 0) hc' h20 (by simp [-Bool.exists_bool, -Int.not_le, -Int.not_lt, -getElem?_pos, -List.getD_eq_getElem?_getD, setH]) (by simp [-Bool.exists_bool, -Int.not_le, -Int.not_lt, -getElem?_pos, -List.getD_eq_getElem?_getD]) (by simp [-Bool.exists_bool, -Int.not_le, -Int.not_lt, -getElem?_pos, -List.getD_eq_getElem?_getD]) ?_
        generalize numF cd 2 c' = y at *
        obtain ⟨x, c2⟩ := y
        simp only at hcn he
        simp -implicitDefEqProofs -dsimp +contextual [-Bool.exists_bool, -Int.not_le, -Int.not_lt, -getElem?_pos, -List.getD_eq_getElem?_getD]
        refine ⟨⟨by omega, by simp [-Bool.exists_bool, -Int.not_le, -Int.not_lt, -getElem?_pos, -List.getD_eq_getElem?_getD, maxLen]; omega⟩, i + 1, m ++ [x], c2.1, c2.2, ⟨h, by simp [-Bool.exists_bool, -Int.not_le, -Int.not_lt, -getElem?_pos, -List.getD_eq_getElem?_getD, hm], hcn, by rw [he, show L.length - (i + 1) = k by omega]⟩, by omega, ?_⟩
        rw [wr (x := (i : Int) + 1) (by omega) (by omega)]
        refine Le.told [((8, 0), (18, 0))] ?_ ?_ ?_ <;> simp [-Bool.exists_bool, -Int.not_le, -Int.not_lt, -getElem?_pos, -List.getD_eq_getElem?_getD]
      · rw [show L.length - i = 0 by omega, numL] at he
        simp -implicitDefEqProofs -dsimp +contextual [-Bool.exists_bool, -Int.not_le, -Int.not_lt, -getElem?_pos, -List.getD_eq_getElem?_getD, h]
        rw [he]
        exact RLe.pure 3 (by simp [-Bool.exists_bool, -Int.not_le, -Int.not_lt, -getElem?_pos, -List.getD_eq_getElem?_getD, setH])
  | false =>
    refine ⟨fun h => (by cases h), fun _ => ?_⟩
    rw [if_neg (by simp [-Bool.exists_bool, -Int.not_le, -Int.not_lt, -getElem?_pos, -List.getD_eq_getElem?_getD])]
    refine WP.loop mixed [] (fun p : Nat × List Int × Cu => ⟨tl [(2, .ptr (0, 0) 0), (4, .ptr (3, 0) 0), (5, .ptr (7, 0) 0), (6, .ref (8, 0) p.2.1.length), (8, I p.1)], hl [((0, 0), .box [I 0, .nil]), ((3, 0), cuE cd p.2.2), ((7, 0), .box [I d, As L]), ((8, 0), .row 3 p.2.1.length (dl (p.2.1.map (D.int .i64))))], 9⟩)
      (fun p => p.1 ≤ L.length ∧ p.2.1.length = p.1 ∧ p.2.2.1 ≤ cd.length ∧ (numL cd L.length [] c).1 = (numL cd (L.length - p.1) p.2.1 p.2.2).1) (fun p => L.length - p.1) (0, [], c) (by kernel_rfl) ?_ ?_ ?_
    · refine Le.trans (Le.nil 6 3 (by simp [-Bool.exists_bool, -Int.not_le, -Int.not_lt, -getElem?_pos, -List.getD_eq_getElem?_getD])) (Le.told [((8, 0), (25, 0))] ?_ ?_ ?_) <;> simp [-Bool.exists_bool, -Int.not_le, -Int.not_lt, -getElem?_pos, -List.getD_eq_getElem?_getD, setH]
    · exact ⟨Nat.zero_le _, rfl, hc, rfl⟩
    · rintro ⟨i, m, c'⟩ ⟨hi, hm, hc', he⟩
      simp only at hi hm hc' he
      by_cases h : i < L.length
      · obtain ⟨k, hk⟩ : ∃ k, L.length - i = k + 1 := ⟨L.length - i - 1, by omega⟩
        rw [hk, numL] at he
        have hcn := numF_cu cd 2 c' hc'
        simp -implicitDefEqProofs -dsimp +contextual [-Bool.exists_bool, -Int.not_le, -Int.not_lt, -getElem?_pos, -List.getD_eq_getElem?_getD, h]
        refine callNum (3, 0) hc' h20 (by simp [-Bool.exists_bool, -Int.not_le, -Int.not_lt, -getElem?_pos, -List.getD_eq_getElem?_getD, setH]) (by simp [-Bool.exists_bool, -Int.not_le, -Int.not_lt, -getElem?_pos, -List.getD_eq_getElem?_getD]) (by simp [-Bool.exists_bool, -Int.not_le, -Int.not_lt, -getElem?_pos, -List.getD_eq_getElem?_getD]) ?_
        generalize numF cd 2 c' = y at *
        obtain ⟨x, c2⟩ := y
        simp only at hcn he
        simp -implicitDefEqProofs -dsimp +contextual [-Bool.exists_bool, -Int.not_le, -Int.not_lt, -getElem?_pos, -List.getD_eq_getElem?_getD]
        refine ⟨⟨by omega, by simp [-Bool.exists_bool, -Int.not_le, -Int.not_lt, -getElem?_pos, -List.getD_eq_getElem?_getD, maxLen]; omega⟩, i + 1, m ++ [x], c2.1, c2.2, ⟨h, by simp [-Bool.exists_bool, -Int.not_le, -Int.not_lt, -getElem?_pos, -List.getD_eq_getElem?_getD, hm], hcn, by rw [he, show L.length - (i + 1) = k by omega]⟩, by omega, ?_⟩
        rw [wr (x := (i : Int) + 1) (by omega) (by omega)]
        refine Le.told [((8, 0), (18, 0))] ?_ ?_ ?_ <;> simp [-Bool.exists_bool, -Int.not_le, -Int.not_lt, -getElem?_pos, -List.getD_eq_getElem?_getD]
      · rw [show L.length - i = 0 by omega, numL] at he
        simp -implicitDefEqProofs -dsimp +contextual [-Bool.exists_bool, -Int.not_le, -Int.not_lt, -getElem?_pos, -List.getD_eq_getElem?_getD, h]
        rw [he]
        exact RLe.pure 3 (by simp [-Bool.exists_bool, -Int.not_le, -Int.not_lt, -getElem?_pos, -List.getD_eq_getElem?_getD, setH])
theorem lawWitness (cd : List Int) (hw : cd.length ≤ maxLen ∧ ∀ y ∈ cd, (Lit.int .u8 y).wf = true) : Cn Try.prog 3 [Bs cd] (B true) hemp := by
  refine Cn.of [] mixed Try.func3 rfl Try.call3 (by kernel_rfl) rfl ?_
  simp -implicitDefEqProofs -dsimp +contextual [-Bool.exists_bool, -Int.not_le, -Int.not_lt, -getElem?_pos, -List.getD_eq_getElem?_getD, Try.f3]
  refine CallJ.pure (big cd) rfl (by simp [-Bool.exists_bool, -Int.not_le, -Int.not_lt, -getElem?_pos, -List.getD_eq_getElem?_getD]) ?_
  simp -implicitDefEqProofs -dsimp +contextual [-Bool.exists_bool, -Int.not_le, -Int.not_lt, -getElem?_pos, -List.getD_eq_getElem?_getD]
  refine ⟨fun hb => RLe.bb rfl, fun hb => ?_⟩
  have h20 : cd.length ≤ 1048576 := by omega
  refine CallJ.pure (DrawWitnessOf cd h20) rfl (by simp [-Bool.exists_bool, -Int.not_le, -Int.not_lt, -getElem?_pos, -List.getD_eq_getElem?_getD]) ?_
  have hx := (anF_ok cd (newC cd) (newC_ok cd)).1
  generalize anF cd (newC cd) = y at *
  obtain ⟨⟨d, L⟩, c⟩ := y
  have h100 : L.length ≤ 1048576 := by have := hx.1; simp only at this; omega
  simp -implicitDefEqProofs -dsimp +contextual [-Bool.exists_bool, -Int.not_le, -Int.not_lt, -getElem?_pos, -List.getD_eq_getElem?_getD]
  refine CallJ.pure (iWitnessOfW d L h100) rfl (by simp [-Bool.exists_bool, -Int.not_le, -Int.not_lt, -getElem?_pos, -List.getD_eq_getElem?_getD]) ?_
  simp -implicitDefEqProofs -dsimp +contextual [-Bool.exists_bool, -Int.not_le, -Int.not_lt, -getElem?_pos, -List.getD_eq_getElem?_getD]
  refine CallJ.pure (iRefuteCellW d L h100) rfl (by simp [-Bool.exists_bool, -Int.not_le, -Int.not_lt, -getElem?_pos, -List.getD_eq_getElem?_getD]) ?_
  simp -implicitDefEqProofs -dsimp +contextual [-Bool.exists_bool, -Int.not_le, -Int.not_lt, -getElem?_pos, -List.getD_eq_getElem?_getD]
  refine CallJ.pure (iIsEmptyCell d L h100) rfl (by simp [-Bool.exists_bool, -Int.not_le, -Int.not_lt, -getElem?_pos, -List.getD_eq_getElem?_getD]) ?_
  have hI := fun h => iInCell d L (witD d L).1 h100 h
  have hR := fun h => iIsRefuted d L (refF d L).1 h100 h
  have hS := fun h => IsRefuted d L (refF d L).1 h100 h
  have hrl : (refF d L).1.length ≤ 1048576 := by
    cases h : (refF d L).2 with
    | true => have := (isRef_len (refF_isRef h)).2; omega
    | false => rw [refF_nil h]; simp [-Bool.exists_bool, -Int.not_le, -Int.not_lt, -getElem?_pos, -List.getD_eq_getElem?_getD]
  have hpl : (witD d L).1.length ≤ 1048576 := by
    by_cases h : (witD d L).2 = 0
    · have := isCe_d (witD_found h).1
      have := (witD_found h).2.1
      omega
    · rw [wit_nil h]; simp [-Bool.exists_bool, -Int.not_le, -Int.not_lt, -getElem?_pos, -List.getD_eq_getElem?_getD]
  replace hI := hI hpl
  replace hR := hR hrl
  replace hS := hS hrl
  have hE := fun h => @witD_empty d L h
  rcases witD_cases d L with h0 | h0 | h0
  · have hr : (refF d L).2 = false := by
      cases h : (refF d L).2 with
      | true => exact absurd h0 (wit_unref (refF_isRef h))
      | false => rfl
    have hm := refF_nil hr
    have hl := (witD_found h0).2.1
    have hin := wit_in h0
    generalize witD d L = p at *
    generalize refF d L = r at *
    generalize emptyC d L = e at *
    generalize inI d L p.1 = q at *
    obtain ⟨p1, p2⟩ := p
    obtain ⟨r1, r2⟩ := r
    obtain ⟨e1, e2⟩ := e
    obtain ⟨q1, q2⟩ := q
    simp only at *
    subst h0 hr hm
    have hE : e2 = true → e1 = false := fun h => by rw [hE h (by simp [-Bool.exists_bool, -Int.not_le, -Int.not_lt, -getElem?_pos, -List.getD_eq_getElem?_getD])]; rfl
    have fin : ∀ {H : Store}, RLe Try.prog H (V.d (D.bool true)) (B true) hemp := RLe.bb rfl
    cases e2
    · simp -implicitDefEqProofs -dsimp +contextual [-Bool.exists_bool, -Int.not_le, -Int.not_lt, -getElem?_pos, -List.getD_eq_getElem?_getD]
      refine CallJ.pure hI rfl (by simp [-Bool.exists_bool, -Int.not_le, -Int.not_lt, -getElem?_pos, -List.getD_eq_getElem?_getD]) ?_
      rcases hin with rfl | rfl
      · simp -implicitDefEqProofs -dsimp +contextual [-Bool.exists_bool, -Int.not_le, -Int.not_lt, -getElem?_pos, -List.getD_eq_getElem?_getD, hl]
        exact fin
      · cases q2
        · simp -implicitDefEqProofs -dsimp +contextual [-Bool.exists_bool, -Int.not_le, -Int.not_lt, -getElem?_pos, -List.getD_eq_getElem?_getD, hl]
          exact fin
        · simp -implicitDefEqProofs -dsimp +contextual [-Bool.exists_bool, -Int.not_le, -Int.not_lt, -getElem?_pos, -List.getD_eq_getElem?_getD, hl]
          exact fin
    · obtain rfl := hE rfl
      simp -implicitDefEqProofs -dsimp +contextual [-Bool.exists_bool, -Int.not_le, -Int.not_lt, -getElem?_pos, -List.getD_eq_getElem?_getD]
      refine CallJ.pure hI rfl (by simp [-Bool.exists_bool, -Int.not_le, -Int.not_lt, -getElem?_pos, -List.getD_eq_getElem?_getD]) ?_
      rcases hin with rfl | rfl
      · simp -implicitDefEqProofs -dsimp +contextual [-Bool.exists_bool, -Int.not_le, -Int.not_lt, -getElem?_pos, -List.getD_eq_getElem?_getD, hl]
        exact fin
      · cases q2
        · simp -implicitDefEqProofs -dsimp +contextual [-Bool.exists_bool, -Int.not_le, -Int.not_lt, -getElem?_pos, -List.getD_eq_getElem?_getD, hl]
          exact fin
        · simp -implicitDefEqProofs -dsimp +contextual [-Bool.exists_bool, -Int.not_le, -Int.not_lt, -getElem?_pos, -List.getD_eq_getElem?_getD, hl]
          exact fin
  · have hp0 := wit_nil (d := d) (L := L) (by omega)
    have hr := @refF_isRef d L
    have hE := fun h => hE h (by omega)
    generalize witD d L = p at *
    generalize refF d L = r at *
    generalize emptyC d L = e at *
    generalize isRef d L r.1 = u at *
    clear hI
    obtain ⟨p1, p2⟩ := p
    obtain ⟨r1, r2⟩ := r
    obtain ⟨e1, e2⟩ := e
    simp only at *
    subst h0 hp0
    have hE : e2 = true → e1 = true := fun h => by rw [hE h]; rfl
    have fin : ∀ {H : Store}, RLe Try.prog H (V.d (D.bool true)) (B true) hemp := RLe.bb rfl
    cases r2
    · cases e2
      · simp -implicitDefEqProofs -dsimp +contextual [-Bool.exists_bool, -Int.not_le, -Int.not_lt, -getElem?_pos, -List.getD_eq_getElem?_getD]
        exact fin
      · obtain rfl := hE rfl
        simp -implicitDefEqProofs -dsimp +contextual [-Bool.exists_bool, -Int.not_le, -Int.not_lt, -getElem?_pos, -List.getD_eq_getElem?_getD]
        exact fin
    · obtain rfl := hr rfl
      cases e2
      · simp -implicitDefEqProofs -dsimp +contextual [-Bool.exists_bool, -Int.not_le, -Int.not_lt, -getElem?_pos, -List.getD_eq_getElem?_getD]
        refine CallJ.pure hR rfl (by simp [-Bool.exists_bool, -Int.not_le, -Int.not_lt, -getElem?_pos, -List.getD_eq_getElem?_getD]) ?_
        simp -implicitDefEqProofs -dsimp +contextual [-Bool.exists_bool, -Int.not_le, -Int.not_lt, -getElem?_pos, -List.getD_eq_getElem?_getD]
        refine CallJ.pure hS rfl (by simp [-Bool.exists_bool, -Int.not_le, -Int.not_lt, -getElem?_pos, -List.getD_eq_getElem?_getD]) ?_
        simp -implicitDefEqProofs -dsimp +contextual [-Bool.exists_bool, -Int.not_le, -Int.not_lt, -getElem?_pos, -List.getD_eq_getElem?_getD]
        exact fin
      · obtain rfl := hE rfl
        simp -implicitDefEqProofs -dsimp +contextual [-Bool.exists_bool, -Int.not_le, -Int.not_lt, -getElem?_pos, -List.getD_eq_getElem?_getD]
        refine CallJ.pure hR rfl (by simp [-Bool.exists_bool, -Int.not_le, -Int.not_lt, -getElem?_pos, -List.getD_eq_getElem?_getD]) ?_
        simp -implicitDefEqProofs -dsimp +contextual [-Bool.exists_bool, -Int.not_le, -Int.not_lt, -getElem?_pos, -List.getD_eq_getElem?_getD]
        refine CallJ.pure hS rfl (by simp [-Bool.exists_bool, -Int.not_le, -Int.not_lt, -getElem?_pos, -List.getD_eq_getElem?_getD]) ?_
        simp -implicitDefEqProofs -dsimp +contextual [-Bool.exists_bool, -Int.not_le, -Int.not_lt, -getElem?_pos, -List.getD_eq_getElem?_getD]
        exact fin
  · have hp0 := wit_nil (d := d) (L := L) (by omega)
    have hr := @refF_isRef d L
    generalize witD d L = p at *
    generalize refF d L = r at *
    generalize emptyC d L = e at *
    generalize isRef d L r.1 = u at *
    clear hI hE
    obtain ⟨p1, p2⟩ := p
    obtain ⟨r1, r2⟩ := r
    obtain ⟨e1, e2⟩ := e
    simp only at *
    subst h0 hp0
    have fin : ∀ {H : Store}, RLe Try.prog H (V.d (D.bool true)) (B true) hemp := RLe.bb rfl
    cases r2
    · cases e2
      · simp -implicitDefEqProofs -dsimp +contextual [-Bool.exists_bool, -Int.not_le, -Int.not_lt, -getElem?_pos, -List.getD_eq_getElem?_getD]
        exact fin
      · simp -implicitDefEqProofs -dsimp +contextual [-Bool.exists_bool, -Int.not_le, -Int.not_lt, -getElem?_pos, -List.getD_eq_getElem?_getD]
        exact fin
    · obtain rfl := hr rfl
      cases e2
      · simp -implicitDefEqProofs -dsimp +contextual [-Bool.exists_bool, -Int.not_le, -Int.not_lt, -getElem?_pos, -List.getD_eq_getElem?_getD]
        refine CallJ.pure hR rfl (by simp [-Bool.exists_bool, -Int.not_le, -Int.not_lt, -getElem?_pos, -List.getD_eq_getElem?_getD]) ?_
        simp -implicitDefEqProofs -dsimp +contextual [-Bool.exists_bool, -Int.not_le, -Int.not_lt, -getElem?_pos, -List.getD_eq_getElem?_getD]
        exact fin
      · simp -implicitDefEqProofs -dsimp +contextual [-Bool.exists_bool, -Int.not_le, -Int.not_lt, -getElem?_pos, -List.getD_eq_getElem?_getD]
        refine CallJ.pure hR rfl (by simp [-Bool.exists_bool, -Int.not_le, -Int.not_lt, -getElem?_pos, -List.getD_eq_getElem?_getD]) ?_
        simp -implicitDefEqProofs -dsimp +contextual [-Bool.exists_bool, -Int.not_le, -Int.not_lt, -getElem?_pos, -List.getD_eq_getElem?_getD]
        exact fin
end Go.Proofs.Ytjknjekemolndaa.ZL
