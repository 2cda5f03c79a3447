/- Texts of the abs road (plain values, what code does to them, and the contracts of the functions that the law reaches). No condition. -/
import Derived.Test.YtohoibekddhneaaG6FnExactRefuteCell
namespace Go.Proofs.Ytohoibekddhneaa.ZL
open Go Go.Proofs.Ytohoibekddhneaa.Abs Go.Proofs.Ytohoibekddhneaa.Abs.Pl Go.RowKit Go.Proofs
set_option linter.unusedVariables false
set_option linter.unusedSimpArgs false
set_option maxRecDepth 100000
structure Cb where
  s : List Int
  k : Int
  st : Bool
  t : List Int
instance : Inhabited Cb := ⟨⟨[], 0, false, []⟩⟩
abbrev cbL (x : Cb) : List V := [Is x.s, I x.k, B x.st, Is x.t]
abbrev cbV (x : Cb) : V := .agg (cbL x)
structure okB (d n : Nat) (x : Cb) : Prop where
  s : okF d x.s
  k : isNum x.k = true
  t : okF n x.t
def jg (S T : List Int) (K : Int) : Int := div1 (Nat.gcd K.natAbs (gcdL (S ++ T)))
def dv (g : Int) (S : List Int) : List Int := S.map (·.tdiv g)
def joinS (a : Cb) (p : Int) (b : Cb) (q : Int) : List Int := mixL p a.s q b.s
def joinT (a : Cb) (p : Int) (b : Cb) (q : Int) : List Int := mixL p a.t q b.t
def joinK (a : Cb) (p : Int) (b : Cb) (q : Int) : Int := p * a.k + q * b.k
def joinG (a : Cb) (p : Int) (b : Cb) (q : Int) : Int := jg (joinS a p b q) (joinT a p b q) (joinK a p b q)
def joinC (a : Cb) (p : Int) (b : Cb) (q : Int) : Cb × Bool :=
  (⟨dv (joinG a p b q) (joinS a p b q), (joinK a p b q).tdiv (joinG a p b q), a.st || b.st, dv (joinG a p b q) (joinT a p b q)⟩,
    isNum ((joinK a p b q).tdiv (joinG a p b q)) && ((dv (joinG a p b q) (joinS a p b q)).all isNum && (dv (joinG a p b q) (joinT a p b q)).all isNum))
theorem mixL_len {p q : Int} {a b : List Int} (h : a.length = b.length) : (mixL p a q b).length = a.length := by simp [-Bool.exists_bool, -Int.not_le, -Int.not_lt, -getElem?_pos, -List.getD_eq_getElem?_getD, mixL, h]
theorem mixL_nth {p q : Int} {a b : List Int} (h : a.length = b.length) {i : Nat} (hi : i < a.length) : nth (mixL p a q b) i = p * nth a i + q * nth b i := by
  rw [nth_eq (by rw [mixL_len h]; exact hi), nth_eq hi, nth_eq (by omega)]
  simp [-Bool.exists_bool, -Int.not_le, -Int.not_lt, -getElem?_pos, -List.getD_eq_getElem?_getD, mixL]
def curG (g : Int) (S : List Int) (i : Nat) : List Int := (S.take i).map (·.tdiv g) ++ S.drop i
theorem curG_len (g : Int) (S : List Int) (i : Nat) : (curG g S i).length = S.length := by simp [-Bool.exists_bool, -Int.not_le, -Int.not_lt, -getElem?_pos, -List.getD_eq_getElem?_getD, curG]; omega
theorem curG_0 (g : Int) (S : List Int) : curG g S 0 = S := by simp [-Bool.exists_bool, -Int.not_le, -Int.not_lt, -getElem?_pos, -List.getD_eq_getElem?_getD, curG]
theorem curG_nth (g : Int) (S : List Int) (i : Nat) (h : i < S.length) : nth (curG g S i) i = nth S i := by
  rw [nth_eq (by rw [curG_len]; exact h), nth_eq h]
  unfold curG
  rw [List.getElem_append_right (by simp [-Bool.exists_bool, -Int.not_le, -Int.not_lt, -getElem?_pos, -List.getD_eq_getElem?_getD]; omega)]
  simp [-Bool.exists_bool, -Int.not_le, -Int.not_lt, -getElem?_pos, -List.getD_eq_getElem?_getD]
  congr 1
  omega
theorem curG_set (g : Int) (S : List Int) (i : Nat) (h : i < S.length) : (curG g S i).set i ((nth S i).tdiv g) = curG g S (i + 1) := by
  unfold curG
  have hl : ((S.take i).map (·.tdiv g)).length = i := by simp [-Bool.exists_bool, -Int.not_le, -Int.not_lt, -getElem?_pos, -List.getD_eq_getElem?_getD]; omega
  rw [List.set_append_right _ _ (by rw [hl]; exact Nat.le_refl _), hl, nth_drop h, nth_take h]
  simp [-Bool.exists_bool, -Int.not_le, -Int.not_lt, -getElem?_pos, -List.getD_eq_getElem?_getD]
theorem curG_new (g : Int) (S : List Int) (i : Nat) (h : i < S.length) : nth (curG g S (i + 1)) i = (nth S i).tdiv g := by
  rw [← curG_set g S i h, nth_eq (by simp [-Bool.exists_bool, -Int.not_le, -Int.not_lt, -getElem?_pos, -List.getD_eq_getElem?_getD, curG_len]; exact h)]
  simp [-Bool.exists_bool, -Int.not_le, -Int.not_lt, -getElem?_pos, -List.getD_eq_getElem?_getD]
theorem curG_end (g : Int) (S : List Int) : curG g S S.length = dv g S := by simp [-Bool.exists_bool, -Int.not_le, -Int.not_lt, -getElem?_pos, -List.getD_eq_getElem?_getD, curG, dv]
theorem dv_take (g : Int) (S : List Int) (i : Nat) (h : i < S.length) : ((dv g S).take (i + 1)).all isNum = (((dv g S).take i).all isNum && isNum ((nth S i).tdiv g)) := by
  have hl : i < (dv g S).length := by simp [-Bool.exists_bool, -Int.not_le, -Int.not_lt, -getElem?_pos, -List.getD_eq_getElem?_getD, dv]; exact h
  have e : nth (dv g S) i = (nth S i).tdiv g := by rw [nth_eq hl, nth_eq h]; simp [-Bool.exists_bool, -Int.not_le, -Int.not_lt, -getElem?_pos, -List.getD_eq_getElem?_getD, dv]
  rw [nth_take hl, List.all_append, e]
  simp [-Bool.exists_bool, -Int.not_le, -Int.not_lt, -getElem?_pos, -List.getD_eq_getElem?_getD]
set_option maxHeartbeats 1000000 in
theorem l3Join (d n : Nat) (a : Cb) (p : Int) (b : Cb) (q : Int) (ha : okB d n a) (hb : okB d n b) (hd : d ≤ 100) (hn : n ≤ 100) (hp : 0 ≤ p ∧ p ≤ 400000000) (hq : 0 ≤ q ∧ q ≤ 400000000) :
    Cn Try.prog 48 [cbV a, I p, cbV b, I q] (.tup [cbV (joinC a p b q).1, B (joinC a p b q).2]) hemp := by
  refine Cn.of [0] mixed Try.func48 rfl Try.call48 (by kernel_rfl) rfl ?_
  have mul : ∀ {x y : Int}, (0 ≤ x ∧ x ≤ 400000000) → isNum y = true → IntKind.wrap .i64 (x * y) = x * y ∧ (-160000000000000000 ≤ x * y ∧ x * y ≤ 160000000000000000) := fun {x y} h1 h2 => by
    have := mul_bd (a := x) ⟨by omega, h1.2⟩ (isNum_iff.1 h2)
    exact ⟨wr (by omega) (by omega), this⟩
  obtain ⟨eK1, bK1⟩ := mul hp ha.k
  obtain ⟨eK2, bK2⟩ := mul hq hb.k
  have eK3 : IntKind.wrap .i64 (p * a.k + q * b.k) = joinK a p b q := wr (by omega) (by omega)
  have bK : -400000000000000000 ≤ joinK a p b q ∧ joinK a p b q ≤ 400000000000000000 := by unfold joinK; omega
  have hsl : a.s.length = b.s.length := by rw [ha.s.1, hb.s.1]
  have htl : a.t.length = b.t.length := by rw [ha.t.1, hb.t.1]
  have sb : ∀ {x y : List Int}, x.length = y.length → (∀ w ∈ x, isNum w = true) → (∀ w ∈ y, isNum w = true) → ∀ i, i < x.length → IntKind.wrap .i64 (p * nth x i) = p * nth x i ∧ IntKind.wrap .i64 (q * nth y i) = q * nth y i ∧ IntKind.wrap .i64 (p * nth x i + q * nth y i) = nth (mixL p x q y) i ∧ (-400000000000000000 ≤ nth (mixL p x q y) i ∧ nth (mixL p x q y) i ≤ 400000000000000000) := fun {x y} hl hx hy i hi => by
    obtain ⟨e1, b1⟩ := mul hp (hx _ (nth_mem hi))
    obtain ⟨e2, b2⟩ := mul hq (hy _ (nth_mem (i := i) (by omega)))
    rw [mixL_nth hl hi]
    exact ⟨e1, e2, wr (by omega) (by omega), by omega⟩
  have hS := sb hsl ha.s.2 hb.s.2
  have hT := sb htl ha.t.2 hb.t.2
  have hSl : (joinS a p b q).length = d := by rw [joinS, mixL_len hsl, ha.s.1]
  have hTl : (joinT a p b q).length = n := by rw [joinT, mixL_len htl, ha.t.1]
  have hal := ha.s.1
  have hat := ha.t.1
  have hbl := hb.s.1
  have hbt := hb.t.1
  change ∀ i, i < a.s.length → _ ∧ _ ∧ _ = nth (joinS a p b q) i ∧ (_ ≤ nth (joinS a p b q) i ∧ nth (joinS a p b q) i ≤ _) at hS
  change ∀ i, i < a.t.length → _ ∧ _ ∧ _ = nth (joinT a p b q) i ∧ (_ ≤ nth (joinT a p b q) i ∧ nth (joinT a p b q) i ≤ _) at hT
  unfold joinC joinG
  generalize joinS a p b q = S at *
  generalize joinT a p b q = T at *
  generalize joinK a p b q = K at *
  simp -implicitDefEqProofs -dsimp +contextual [-Bool.exists_bool, -Int.not_le, -Int.not_lt, -getElem?_pos, -List.getD_eq_getElem?_getD, Try.f48, eK1, eK2, eK3]
  have hsv : ∀ x : Bool, (a.st = true → (a.st || b.st) = true) ∧ (a.st = false → (a.st || b.st) = b.st) := fun x => ⟨fun h => by simp [-Bool.exists_bool, -Int.not_le, -Int.not_lt, -getElem?_pos, -List.getD_eq_getElem?_getD, h], fun h => by simp [-Bool.exists_bool, -Int.not_le, -Int.not_lt, -getElem?_pos, -List.getD_eq_getElem?_getD, h]⟩
  refine ⟨fun hst => ?_, fun hst => ?_⟩
  all_goals
    refine WP.loop mixed [0] (fun i : Nat => ⟨tl [(1, I p), (3, I q), (4, .ptr (0, 0) 0), (6, .ptr (1, 0) 0), (8, .ptr (2, 0) 0), (10, .ptr (3, 0) 0), (11, I i)], Abs.hl [((0, 0), .box (cbL a)), ((1, 0), .box (cbL b)), ((2, 0), .box [.nil, I 0, B false, .nil]), ((3, 0), .box [.ref (4, 0) i, I K, B (a.st || b.st), .nil]), ((4, 0), .row 3 i (dl ((S.take i).map (D.int .i64))))], 5⟩) (fun i => i ≤ d) (fun i => d - i) 0 (by kernel_rfl) ?_ ?_ ?_
    · refine Le.trans (Le.nilBox (20, 0) 0 3 (c := [.nil, I K, B (a.st || b.st), .nil]) (by simp [-Bool.exists_bool, -Int.not_le, -Int.not_lt, -getElem?_pos, -List.getD_eq_getElem?_getD, setH, hst]) rfl) (Le.told [((3, 0), (20, 0)), ((4, 0), (23, 0))] ?_ ?_ ?_) <;> simp [-Bool.exists_bool, -Int.not_le, -Int.not_lt, -getElem?_pos, -List.getD_eq_getElem?_getD, setH, ELe]
    · simp [-Bool.exists_bool, -Int.not_le, -Int.not_lt, -getElem?_pos, -List.getD_eq_getElem?_getD]
    · intro i hi
      by_cases h : i < d
      · obtain ⟨e1, e2, e3, _⟩ := hS i (by omega)
        have hia : i < a.s.length := by omega
        have hib : i < b.s.length := by omega
        have hiS : i < S.length := by omega
        have htk := nth_take hiS
        simp -implicitDefEqProofs -dsimp +contextual [-Bool.exists_bool, -Int.not_le, -Int.not_lt, -getElem?_pos, -List.getD_eq_getElem?_getD, h, hal, hbl, e1, e2, e3]
        refine ⟨⟨by omega, by simp [-Bool.exists_bool, -Int.not_le, -Int.not_lt, -getElem?_pos, -List.getD_eq_getElem?_getD, maxLen]; omega⟩, Quiet.of [] (by kernel_rfl) (by simp [-Bool.exists_bool, -Int.not_le, -Int.not_lt, -getElem?_pos, -List.getD_eq_getElem?_getD, allP, offB]), Quiet.of [] (by kernel_rfl) (by simp [-Bool.exists_bool, -Int.not_le, -Int.not_lt, -getElem?_pos, -List.getD_eq_getElem?_getD, allP, offB]), i + 1, h, by omega, ?_⟩
        rw [wr (x := (i : Int) + 1) (by omega) (by omega)]
        refine Le.told [((4, 0), (28, 0))] ?_ ?_ ?_ <;> simp [-Bool.exists_bool, -Int.not_le, -Int.not_lt, -getElem?_pos, -List.getD_eq_getElem?_getD, htk, ← List.map_take]
      · obtain rfl : i = d := by omega
        simp -implicitDefEqProofs -dsimp +contextual [-Bool.exists_bool, -Int.not_le, -Int.not_lt, -getElem?_pos, -List.getD_eq_getElem?_getD, h, hal]
        have hSt : List.take i (S.map (D.int IntKind.i64)) = S.map (D.int IntKind.i64) := List.take_of_length_le (by simp [-Bool.exists_bool, -Int.not_le, -Int.not_lt, -getElem?_pos, -List.getD_eq_getElem?_getD]; omega)
        refine WP.loop mixed [0] (fun j : Nat => ⟨tl [(1, I p), (3, I q), (4, .ptr (0, 0) 0), (6, .ptr (1, 0) 0), (8, .ptr (2, 0) 0), (10, .ptr (3, 0) 0), (12, I j)], Abs.hl [((0, 0), .box (cbL a)), ((1, 0), .box (cbL b)), ((2, 0), .box [.nil, I 0, B false, .nil]), ((3, 0), .box [.ref (4, 0) i, I K, B (a.st || b.st), .ref (5, 0) j]), ((4, 0), .row 3 i (dl (S.map (D.int .i64)))), ((5, 0), .row 3 j (dl ((T.take j).map (D.int .i64))))], 6⟩) (fun j => j ≤ n) (fun j => n - j) 0 (by kernel_rfl) ?_ ?_ ?_
        · refine Le.trans (Le.nilBox (3, 0) 3 3 (c := [.ref (4, 0) i, I K, B (a.st || b.st), .nil]) (by simp [-Bool.exists_bool, -Int.not_le, -Int.not_lt, -getElem?_pos, -List.getD_eq_getElem?_getD, setH]) rfl) (Le.told [((5, 0), (11, 0))] ?_ ?_ ?_) <;> simp [-Bool.exists_bool, -Int.not_le, -Int.not_lt, -getElem?_pos, -List.getD_eq_getElem?_getD, setH, ELe, hSt]
        · simp [-Bool.exists_bool, -Int.not_le, -Int.not_lt, -getElem?_pos, -List.getD_eq_getElem?_getD]
        · intro j hj
          by_cases hjn : j < n
          · obtain ⟨e1, e2, e3, _⟩ := hT j (by omega)
            have hjT : j < T.length := by omega
            have htk := nth_take hjT
            simp -implicitDefEqProofs -dsimp +contextual [-Bool.exists_bool, -Int.not_le, -Int.not_lt, -getElem?_pos, -List.getD_eq_getElem?_getD, h, hjn, hat, hbt, e1, e2, e3]
            refine ⟨⟨by omega, by simp [-Bool.exists_bool, -Int.not_le, -Int.not_lt, -getElem?_pos, -List.getD_eq_getElem?_getD, maxLen]; omega⟩, Quiet.of [] (by kernel_rfl) (by simp [-Bool.exists_bool, -Int.not_le, -Int.not_lt, -getElem?_pos, -List.getD_eq_getElem?_getD, allP, offB]), Quiet.of [] (by kernel_rfl) (by simp [-Bool.exists_bool, -Int.not_le, -Int.not_lt, -getElem?_pos, -List.getD_eq_getElem?_getD, allP, offB]), j + 1, hjn, by omega, ?_⟩
            rw [wr (x := (j : Int) + 1) (by omega) (by omega)]
            refine Le.told [((5, 0), (29, 0))] ?_ ?_ ?_ <;> simp [-Bool.exists_bool, -Int.not_le, -Int.not_lt, -getElem?_pos, -List.getD_eq_getElem?_getD, htk, ← List.map_take]
          · obtain rfl : j = n := by omega
            have hTt : List.take j (T.map (D.int IntKind.i64)) = T.map (D.int IntKind.i64) := List.take_of_length_le (by simp [-Bool.exists_bool, -Int.not_le, -Int.not_lt, -getElem?_pos, -List.getD_eq_getElem?_getD]; omega)
            simp -implicitDefEqProofs -dsimp +contextual [-Bool.exists_bool, -Int.not_le, -Int.not_lt, -getElem?_pos, -List.getD_eq_getElem?_getD, hjn, hat, hTt]
            refine ⟨⟨by omega, by omega, by simp [-Bool.exists_bool, -Int.not_le, -Int.not_lt, -getElem?_pos, -List.getD_eq_getElem?_getD, maxLen]; omega⟩, ⟨by omega, by omega, by simp [-Bool.exists_bool, -Int.not_le, -Int.not_lt, -getElem?_pos, -List.getD_eq_getElem?_getD, maxLen]; omega⟩, Quiet.of [10] (by kernel_rfl) (by simp [-Bool.exists_bool, -Int.not_le, -Int.not_lt, -getElem?_pos, -List.getD_eq_getElem?_getD, allP, offB]), ?_⟩
            have hSTb : ∀ y ∈ S ++ T, -400000000000000000 ≤ y ∧ y ≤ 400000000000000000 := fun y hy => by
              rcases List.mem_append.1 hy with hy | hy
              · obtain ⟨w, hw, rfl⟩ := List.getElem_of_mem hy
                have := (hS w (by omega)).2.2.2
                rwa [nth_eq hw] at this
              · obtain ⟨w, hw, rfl⟩ := List.getElem_of_mem hy
                have := (hT w (by omega)).2.2.2
                rwa [nth_eq hw] at this
            have hG := l2Gcd (S ++ T) K (by simp [-Bool.exists_bool, -Int.not_le, -Int.not_lt, -getElem?_pos, -List.getD_eq_getElem?_getD]; omega) (fun y hy => by have := hSTb y hy; omega) (by omega)
            have hle : (S ++ T).length = i + j := by simp [-Bool.exists_bool, -Int.not_le, -Int.not_lt, -getElem?_pos, -List.getD_eq_getElem?_getD]; omega
            have hgeq : gcdF K.natAbs (S ++ T) = Nat.gcd K.natAbs (gcdL (S ++ T)) := gcdF_eq _ _
            rw [hgeq] at hG
            refine CallJ.lent (ks := [(17, 0)]) 2 hG (by simp [-Bool.exists_bool, -Int.not_le, -Int.not_lt, -getElem?_pos, -List.getD_eq_getElem?_getD, lendVs, lendV, setH, hle]) (by simp [-Bool.exists_bool, -Int.not_le, -Int.not_lt, -getElem?_pos, -List.getD_eq_getElem?_getD, slotsL, slotsV]) rfl (by simp [-Bool.exists_bool, -Int.not_le, -Int.not_lt, -getElem?_pos, -List.getD_eq_getElem?_getD]) ?_
            simp -implicitDefEqProofs -dsimp +contextual [-Bool.exists_bool, -Int.not_le, -Int.not_lt, -getElem?_pos, -List.getD_eq_getElem?_getD]
            have hgd : (if 1 < ((K.natAbs.gcd (gcdL (S ++ T)) : Nat) : Int) then ((K.natAbs.gcd (gcdL (S ++ T)) : Nat) : Int) else 1) = jg S T K := by
              unfold jg div1
              split <;> split <;> omega
            have hgp : 0 < jg S T K := div1_pos _
            rw [hgd]
            generalize jg S T K = g at hgp ⊢
            refine ⟨by omega, ?_⟩
            have tb : ∀ y : Int, (-400000000000000000 ≤ y ∧ y ≤ 400000000000000000) → IntKind.wrap .i64 (y.tdiv g) = y.tdiv g := fun y hy => by
              have h1 : (y.tdiv g).natAbs ≤ y.natAbs := by rw [Int.natAbs_tdiv]; exact Nat.div_le_self _ _
              exact wr (by omega) (by omega)
            rw [tb K bK]
            refine CallJ.pure (IsNumber (K.tdiv g)) rfl (by simp [-Bool.exists_bool, -Int.not_le, -Int.not_lt, -getElem?_pos, -List.getD_eq_getElem?_getD]) ?_
            simp -implicitDefEqProofs -dsimp +contextual [-Bool.exists_bool, -Int.not_le, -Int.not_lt, -getElem?_pos, -List.getD_eq_getElem?_getD]
            generalize K.tdiv g = K'
            refine WP.loop mixed [0] (fun x : Nat × Bool => ⟨tl [(8, .ptr (2, 0) 0), (10, .ptr (3, 0) 0), (13, I g), (14, B x.2), (15, I x.1)], Abs.hl [((2, 0), .box [.nil, I 0, B false, .nil]), ((3, 0), .box [.ref (4, 0) i, I K', B (a.st || b.st), .ref (5, 0) j]), ((4, 0), .row 3 i (dl ((curG g S x.1).map (D.int .i64)))), ((5, 0), .row 3 j (dl (T.map (D.int .i64))))], 6⟩) (fun x => x.1 ≤ i ∧ x.2 = (isNum K' && ((dv g S).take x.1).all isNum)) (fun x => i - x.1) (0, isNum K') (by kernel_rfl) ?_ ?_ ?_
            · refine Le.told [] ?_ ?_ ?_ <;> simp [-Bool.exists_bool, -Int.not_le, -Int.not_lt, -getElem?_pos, -List.getD_eq_getElem?_getD, setH, curG]
            · exact ⟨Nat.zero_le _, by simp [-Bool.exists_bool, -Int.not_le, -Int.not_lt, -getElem?_pos, -List.getD_eq_getElem?_getD]⟩
            · rintro ⟨v, f⟩ ⟨hv, hf⟩
              simp only at hv hf
              by_cases hvi : v < i
              · have hvS : v < S.length := by omega
                have hcl := curG_len g S v
                have hcn := curG_nth g S v hvS
                have hset := curG_set g S v hvS
                have hget : (curG g S v)[v]? = some (nth S v) := by rw [nth_some (by rw [hcl]; exact hvS), hcn]
                have hv1 : v + 1 ≤ i := hvi
                have hg0 : ¬ g = 0 := by omega
                have hset2 : List.take v (List.map (D.int IntKind.i64) (curG g S v)) ++ D.int IntKind.i64 ((nth S v).tdiv g) :: List.drop (v + 1) (List.map (D.int IntKind.i64) (curG g S v)) = List.map (D.int IntKind.i64) (curG g S (v + 1)) := by
                  rw [← hset, List.map_set, List.set_eq_take_append_cons_drop, if_pos (by rw [List.length_map, hcl]; exact hvS)]
                have hcl2 := curG_len g S (v + 1)
                have hget2 : (curG g S (v + 1))[v]? = some ((nth S v).tdiv g) := by rw [nth_some (by rw [hcl2]; exact hvS), curG_new g S v hvS]
                have htb := tb _ (hS v (by omega)).2.2.2
                simp -implicitDefEqProofs -dsimp +contextual [-Bool.exists_bool, -Int.not_le, -Int.not_lt, -getElem?_pos, -List.getD_eq_getElem?_getD, hvi, hget, hg0, hcl, hSl, hv1, htb, hset2, hget2]
                refine ⟨Quiet.of [] (by kernel_rfl) (by simp [-Bool.exists_bool, -Int.not_le, -Int.not_lt, -getElem?_pos, -List.getD_eq_getElem?_getD, allP, offB]), fun hft => ?_, fun hft => ?_⟩
                · refine CallJ.pure (IsNumber ((nth S v).tdiv g)) rfl (by simp [-Bool.exists_bool, -Int.not_le, -Int.not_lt, -getElem?_pos, -List.getD_eq_getElem?_getD]) ?_
                  simp -implicitDefEqProofs -dsimp +contextual [-Bool.exists_bool, -Int.not_le, -Int.not_lt, -getElem?_pos, -List.getD_eq_getElem?_getD, hvi, hft]
                  refine ⟨v + 1, isNum ((nth S v).tdiv g), ⟨hvi, ?_⟩, by omega, ?_⟩
                  · rw [dv_take g S v hvS, ← Bool.and_assoc, ← hf, hft]; simp [-Bool.exists_bool, -Int.not_le, -Int.not_lt, -getElem?_pos, -List.getD_eq_getElem?_getD]
                  · rw [wr (x := (v : Int) + 1) (by omega) (by omega)]
                    refine Le.told [] ?_ ?_ ?_ <;> simp [-Bool.exists_bool, -Int.not_le, -Int.not_lt, -getElem?_pos, -List.getD_eq_getElem?_getD]
                · refine ⟨v + 1, false, ⟨hvi, ?_⟩, by omega, ?_⟩
                  · rw [dv_take g S v hvS, ← Bool.and_assoc, ← hf, hft]; simp [-Bool.exists_bool, -Int.not_le, -Int.not_lt, -getElem?_pos, -List.getD_eq_getElem?_getD]
                  · rw [wr (x := (v : Int) + 1) (by omega) (by omega)]
                    refine Le.told [] ?_ ?_ ?_ <;> simp [-Bool.exists_bool, -Int.not_le, -Int.not_lt, -getElem?_pos, -List.getD_eq_getElem?_getD]
              · obtain rfl : v = i := by omega
                have hSe : curG g S v = dv g S := by rw [← hSl, curG_end]
                have hfe : f = (isNum K' && (dv g S).all isNum) := by rw [hf, List.take_of_length_le (by simp [-Bool.exists_bool, -Int.not_le, -Int.not_lt, -getElem?_pos, -List.getD_eq_getElem?_getD, dv]; omega)]
                simp -implicitDefEqProofs -dsimp +contextual [-Bool.exists_bool, -Int.not_le, -Int.not_lt, -getElem?_pos, -List.getD_eq_getElem?_getD, hvi]
                refine WP.loop mixed [0] (fun x : Nat × Bool => ⟨tl [(8, .ptr (2, 0) 0), (10, .ptr (3, 0) 0), (13, I g), (14, B x.2), (16, I x.1)], Abs.hl [((2, 0), .box [.nil, I 0, B false, .nil]), ((3, 0), .box [.ref (4, 0) v, I K', B (a.st || b.st), .ref (5, 0) j]), ((4, 0), .row 3 v (dl ((dv g S).map (D.int .i64)))), ((5, 0), .row 3 j (dl ((curG g T x.1).map (D.int .i64))))], 6⟩) (fun x => x.1 ≤ j ∧ x.2 = (f && ((dv g T).take x.1).all isNum)) (fun x => j - x.1) (0, f) (by kernel_rfl) ?_ ?_ ?_
                · refine Le.told [] ?_ ?_ ?_ <;> simp [-Bool.exists_bool, -Int.not_le, -Int.not_lt, -getElem?_pos, -List.getD_eq_getElem?_getD, setH, curG_0, hSe]
                · exact ⟨Nat.zero_le _, by simp [-Bool.exists_bool, -Int.not_le, -Int.not_lt, -getElem?_pos, -List.getD_eq_getElem?_getD]⟩
                · rintro ⟨u, f2⟩ ⟨hu, hf2⟩
                  simp only at hu hf2
                  by_cases huj : u < j
                  · have huT : u < T.length := by omega
                    have hcl := curG_len g T u
                    have hcn := curG_nth g T u huT
                    have hset := curG_set g T u huT
                    have hget : (curG g T u)[u]? = some (nth T u) := by rw [nth_some (by rw [hcl]; exact huT), hcn]
                    have hu1 : u + 1 ≤ j := huj
                    have hg0 : ¬ g = 0 := by omega
                    have hset2 : List.take u (List.map (D.int IntKind.i64) (curG g T u)) ++ D.int IntKind.i64 ((nth T u).tdiv g) :: List.drop (u + 1) (List.map (D.int IntKind.i64) (curG g T u)) = List.map (D.int IntKind.i64) (curG g T (u + 1)) := by
                      rw [← hset, List.map_set, List.set_eq_take_append_cons_drop, if_pos (by rw [List.length_map, hcl]; exact huT)]
                    have hcl2 := curG_len g T (u + 1)
                    have hget2 : (curG g T (u + 1))[u]? = some ((nth T u).tdiv g) := by rw [nth_some (by rw [hcl2]; exact huT), curG_new g T u huT]
                    have htb := tb _ (hT u (by omega)).2.2.2
                    simp -implicitDefEqProofs -dsimp +contextual [-Bool.exists_bool, -Int.not_le, -Int.not_lt, -getElem?_pos, -List.getD_eq_getElem?_getD, huj, hget, hg0, hcl, hTl, hu1, htb, hset2, hget2]
                    refine ⟨Quiet.of [] (by kernel_rfl) (by simp [-Bool.exists_bool, -Int.not_le, -Int.not_lt, -getElem?_pos, -List.getD_eq_getElem?_getD, allP, offB]), fun hft => ?_, fun hft => ?_⟩
                    · refine CallJ.pure (IsNumber ((nth T u).tdiv g)) rfl (by simp [-Bool.exists_bool, -Int.not_le, -Int.not_lt, -getElem?_pos, -List.getD_eq_getElem?_getD]) ?_
                      simp -implicitDefEqProofs -dsimp +contextual [-Bool.exists_bool, -Int.not_le, -Int.not_lt, -getElem?_pos, -List.getD_eq_getElem?_getD, huj, hft]
                      refine ⟨u + 1, isNum ((nth T u).tdiv g), ⟨huj, ?_⟩, by omega, ?_⟩
                      · rw [dv_take g T u huT, ← Bool.and_assoc, ← hf2, hft]; simp [-Bool.exists_bool, -Int.not_le, -Int.not_lt, -getElem?_pos, -List.getD_eq_getElem?_getD]
                      · rw [wr (x := (u : Int) + 1) (by omega) (by omega)]
                        refine Le.told [] ?_ ?_ ?_ <;> simp [-Bool.exists_bool, -Int.not_le, -Int.not_lt, -getElem?_pos, -List.getD_eq_getElem?_getD]
                    · refine ⟨u + 1, false, ⟨huj, ?_⟩, by omega, ?_⟩
                      · rw [dv_take g T u huT, ← Bool.and_assoc, ← hf2, hft]; simp [-Bool.exists_bool, -Int.not_le, -Int.not_lt, -getElem?_pos, -List.getD_eq_getElem?_getD]
                      · rw [wr (x := (u : Int) + 1) (by omega) (by omega)]
                        refine Le.told [] ?_ ?_ ?_ <;> simp [-Bool.exists_bool, -Int.not_le, -Int.not_lt, -getElem?_pos, -List.getD_eq_getElem?_getD]
                  · obtain rfl : u = j := by omega
                    have hTe : curG g T u = dv g T := by rw [← hTl, curG_end]
                    have hf2e : f2 = (isNum K' && ((dv g S).all isNum && (dv g T).all isNum)) := by
                      rw [hf2, hfe, List.take_of_length_le (by simp [-Bool.exists_bool, -Int.not_le, -Int.not_lt, -getElem?_pos, -List.getD_eq_getElem?_getD, dv]; omega), Bool.and_assoc]
                    have hdS : (dv g S).length = v := by simp [-Bool.exists_bool, -Int.not_le, -Int.not_lt, -getElem?_pos, -List.getD_eq_getElem?_getD, dv, hSl]
                    have hdT : (dv g T).length = u := by simp [-Bool.exists_bool, -Int.not_le, -Int.not_lt, -getElem?_pos, -List.getD_eq_getElem?_getD, dv, hTl]
                    simp -implicitDefEqProofs -dsimp +contextual [-Bool.exists_bool, -Int.not_le, -Int.not_lt, -getElem?_pos, -List.getD_eq_getElem?_getD, huj]
                    rw [← hf2e]
                    exact RLe.pure 3 (by simp [-Bool.exists_bool, -Int.not_le, -Int.not_lt, -getElem?_pos, -List.getD_eq_getElem?_getD, setH, hTe, hdS, hdT])
end Go.Proofs.Ytohoibekddhneaa.ZL
namespace Go.Proofs.Ytohoibekddhneaa.ZL
open Go Go.Proofs.Ytohoibekddhneaa.Abs Go.Proofs.Ytohoibekddhneaa.Abs.Pl Go.RowKit Go.Proofs
set_option linter.unusedVariables false
set_option linter.unusedSimpArgs false
set_option maxRecDepth 100000
def qD (x : Cb) : List D := [.sl x.s.length (x.s.map (D.int .i64)), .int .i64 x.k, .bool x.st, .sl x.t.length (x.t.map (D.int .i64))]
def qsD (L : List Cb) : List D := L.flatMap qD
abbrev Ql (L : List Cb) : V := .d (.sl L.length (qsD L))
theorem qsD_len (L : List Cb) : (qsD L).length = L.length * 4 := by induction L with
  | nil => rfl
  | cons a L ih => simp [-Bool.exists_bool, -Int.not_le, -Int.not_lt, -getElem?_pos, -List.getD_eq_getElem?_getD, qsD, qD] at *; omega
theorem qsD_dropE (L : List Cb) : ∀ i, (qsD L).drop (i * 4) = qsD (L.drop i) := by
  induction L with
  | nil => intro i; simp [-Bool.exists_bool, -Int.not_le, -Int.not_lt, -getElem?_pos, -List.getD_eq_getElem?_getD, qsD]
  | cons a L ih =>
    intro i
    cases i with
    | zero => simp [-Bool.exists_bool, -Int.not_le, -Int.not_lt, -getElem?_pos, -List.getD_eq_getElem?_getD, qsD]
    | succ i =>
      have := ih i
      rw [show (i + 1) * 4 = 4 + i * 4 by omega, ← List.drop_drop]
      simpa [-Bool.exists_bool, -Int.not_le, -Int.not_lt, -getElem?_pos, -List.getD_eq_getElem?_getD, qsD, qD] using this
theorem qsD_take (L : List Cb) : ∀ i, (qsD L).take (i * 4) = qsD (L.take i) := by
  induction L with
  | nil => intro i; simp [-Bool.exists_bool, -Int.not_le, -Int.not_lt, -getElem?_pos, -List.getD_eq_getElem?_getD, qsD]
  | cons a L ih =>
    intro i
    cases i with
    | zero => simp [-Bool.exists_bool, -Int.not_le, -Int.not_lt, -getElem?_pos, -List.getD_eq_getElem?_getD, qsD]
    | succ i =>
      have := ih i
      rw [show (i + 1) * 4 = 4 + i * 4 by omega, List.take_add]
      simp [-Bool.exists_bool, -Int.not_le, -Int.not_lt, -getElem?_pos, -List.getD_eq_getElem?_getD, qsD, qD] at this ⊢
      exact this
theorem qsD_cons (a : Cb) (L : List Cb) : qsD (a :: L) = qD a ++ qsD L := by simp [-Bool.exists_bool, -Int.not_le, -Int.not_lt, -getElem?_pos, -List.getD_eq_getElem?_getD, qsD]
theorem qsD_append (L M : List Cb) : qsD (L ++ M) = qsD L ++ qsD M := by simp [-Bool.exists_bool, -Int.not_le, -Int.not_lt, -getElem?_pos, -List.getD_eq_getElem?_getD, qsD]
theorem qsD_nth (L : List Cb) (i : Nat) (h : i < L.length) : (qsD L).drop (i * 4) = qD (nth L i) ++ qsD (L.drop (i + 1)) := by rw [qsD_dropE, nth_drop h, qsD_cons]
theorem qsD_get (L : List Cb) (i : Nat) (h : i < L.length) (j : Nat) (hj : j < 4) : (qsD L)[i * 4 + j]? = (qD (nth L i))[j]? := by
  have := qsD_nth L i h
  have e : (qsD L)[i * 4 + j]? = ((qsD L).drop (i * 4))[j]? := by simp [-Bool.exists_bool, -Int.not_le, -Int.not_lt, -getElem?_pos, -List.getD_eq_getElem?_getD]
  rw [e, this, List.getElem?_append_left (by simp [-Bool.exists_bool, -Int.not_le, -Int.not_lt, -getElem?_pos, -List.getD_eq_getElem?_getD, qD]; omega)]
theorem qsD_get0 (L : List Cb) (i : Nat) (h : i < L.length) : (qsD L)[i * 4]? = some (.sl (nth L i).s.length ((nth L i).s.map (D.int .i64))) := qsD_get L i h 0 (by omega)
theorem qsD_get1 (L : List Cb) (i : Nat) (h : i < L.length) : (qsD L)[i * 4 + 1]? = some (.int .i64 (nth L i).k) := qsD_get L i h 1 (by omega)
theorem qsD_get2 (L : List Cb) (i : Nat) (h : i < L.length) : (qsD L)[i * 4 + 2]? = some (.bool (nth L i).st) := qsD_get L i h 2 (by omega)
theorem qsD_get3 (L : List Cb) (i : Nat) (h : i < L.length) : (qsD L)[i * 4 + 3]? = some (.sl (nth L i).t.length ((nth L i).t.map (D.int .i64))) := qsD_get L i h 3 (by omega)
theorem qsD_cutD (L : List Cb) (i : Nat) (h : i < L.length) : (qsD (L.drop i)).take 4 = qD (nth L i) := by rw [← qsD_dropE, qsD_nth L i h]; simp [-Bool.exists_bool, -Int.not_le, -Int.not_lt, -getElem?_pos, -List.getD_eq_getElem?_getD, qD]
theorem dl_qD (x : Cb) : dl (qD x) = cbL x := rfl
theorem qsD_roomD (L : List Cb) (i : Nat) (h : i < L.length) : (i * 4 + 4 ≤ L.length * 4) = True := by simp [-Bool.exists_bool, -Int.not_le, -Int.not_lt, -getElem?_pos, -List.getD_eq_getElem?_getD]; omega
theorem qsD_nil : qsD [] = [] := rfl
attribute [simp] qsD_get0 qsD_get1 qsD_get2 qsD_get3 qsD_cutD dl_qD qsD_take qsD_dropE qsD_len qsD_roomD qsD_nil
def jIn (v : Nat) (a : Cb) : List Cb → List Cb → Option (List Cb)
  | [], acc => some acc
  | b :: bs, acc => if 0 ≤ nth b.s v then jIn v a bs acc else
      if (joinC a (-(nth b.s v)) b (nth a.s v)).2 = false ∨ 64 ≤ acc.length then none else jIn v a bs (acc ++ [(joinC a (-(nth b.s v)) b (nth a.s v)).1])
def jOut (v : Nat) (l : List Cb) : List Cb → List Cb → Option (List Cb)
  | [], acc => some acc
  | a :: T, acc => if nth a.s v ≤ 0 then jOut v l T acc else (jIn v a l acc).bind (jOut v l T)
def freeS (v : Nat) (x : Cb) : Bool := decide (nth x.s v = 0)
def jdrop (v : Nat) (l : List Cb) : Option (List Cb) := jOut v l l (l.filter (freeS v))
def jall : Nat → List Cb → Option (List Cb)
  | 0, l => some l
  | v + 1, l => (jdrop v l).bind (jall v)
def uniC (L : List At) (i : Nat) : Cb := ⟨(nth L i).1, (nth L i).2.1, (nth L i).2.2, unit L.length i⟩
def iniC (L : List At) (n : Nat) : List Cb := (List.range n).map (uniC L)
def hitS (x : Cb) : Bool := decide (0 < x.k) || (decide (x.k = 0) && x.st)
def findS : List Cb → List Int × Bool
  | [] => ([], false)
  | x :: xs => if hitS x = true then (x.t, true) else findS xs
def refS (d : Int) (L : List At) : List Int × Bool := if isCe d L = true then (match jall d.toNat (iniC L L.length) with
  | none => ([], false)
  | some l => findS l) else ([], false)
theorem joinC_ok {d n : Nat} {a b : Cb} {p q : Int} (ha : okB d n a) (hb : okB d n b) (h : (joinC a p b q).2 = true) : okB d n (joinC a p b q).1 := by
  unfold joinC at h
  simp only [Bool.and_eq_true, List.all_eq_true] at h
  refine ⟨⟨?_, h.2.1⟩, h.1, ⟨?_, h.2.2⟩⟩
  · simp [-Bool.exists_bool, -Int.not_le, -Int.not_lt, -getElem?_pos, -List.getD_eq_getElem?_getD, joinC, dv, joinS, mixL, ha.s.1, hb.s.1]
  · simp [-Bool.exists_bool, -Int.not_le, -Int.not_lt, -getElem?_pos, -List.getD_eq_getElem?_getD, joinC, dv, joinT, mixL, ha.t.1, hb.t.1]
def okBs (d n : Nat) (l : List Cb) : Prop := l.length ≤ 64 ∧ ∀ x ∈ l, okB d n x
theorem jIn_ok {d n v : Nat} {a : Cb} (ha : okB d n a) : ∀ {bs acc z : List Cb}, (∀ b ∈ bs, okB d n b) → okBs d n acc → jIn v a bs acc = some z → okBs d n z
  | [], acc, z, _, h, e => by obtain rfl := Option.some.inj e; exact h
  | b :: bs, acc, z, hb, h, e => by
    unfold jIn at e
    have hb' : ∀ x ∈ bs, okB d n x := fun x hx => hb x (by simp [-Bool.exists_bool, -Int.not_le, -Int.not_lt, -getElem?_pos, -List.getD_eq_getElem?_getD, hx])
    split at e
    · exact jIn_ok ha hb' h e
    · split at e
      · cases e
      · rename_i hno
        have h1 : (joinC a (-(nth b.s v)) b (nth a.s v)).2 = true := by
          cases hq : (joinC a (-(nth b.s v)) b (nth a.s v)).2 with
          | true => rfl
          | false => exact absurd (.inl hq) hno
        have h2 : ¬ 64 ≤ acc.length := fun hh => hno (.inr hh)
        refine jIn_ok ha hb' ⟨by simp [-Bool.exists_bool, -Int.not_le, -Int.not_lt, -getElem?_pos, -List.getD_eq_getElem?_getD]; omega, fun x hx => ?_⟩ e
        rcases List.mem_append.1 hx with hx | hx
        · exact h.2 x hx
        · rw [List.mem_singleton.1 hx]; exact joinC_ok ha (hb b (by simp [-Bool.exists_bool, -Int.not_le, -Int.not_lt, -getElem?_pos, -List.getD_eq_getElem?_getD])) h1
theorem jOut_ok {d n v : Nat} {l : List Cb} (hl : ∀ a ∈ l, okB d n a) : ∀ {T acc z : List Cb}, (∀ b ∈ T, okB d n b) → okBs d n acc → jOut v l T acc = some z → okBs d n z
  | [], acc, z, _, h, e => by obtain rfl := Option.some.inj e; exact h
  | a :: T, acc, z, hb, h, e => by
    unfold jOut at e
    have hb' : ∀ x ∈ T, okB d n x := fun x hx => hb x (by simp [-Bool.exists_bool, -Int.not_le, -Int.not_lt, -getElem?_pos, -List.getD_eq_getElem?_getD, hx])
    split at e
    · exact jOut_ok hl hb' h e
    · obtain ⟨y, e1, e2⟩ := Option.bind_eq_some_iff.1 e
      exact jOut_ok hl hb' (jIn_ok (hb a (by simp [-Bool.exists_bool, -Int.not_le, -Int.not_lt, -getElem?_pos, -List.getD_eq_getElem?_getD])) hl h e1) e2
theorem jdrop_ok {d n v : Nat} {l z : List Cb} (hl : okBs d n l) (e : jdrop v l = some z) : okBs d n z :=
  jOut_ok hl.2 hl.2 ⟨by have := List.length_filter_le (freeS v) l; have := hl.1; omega, fun b hb => hl.2 b (List.mem_filter.1 hb).1⟩ e
theorem uniC_ok {L : List At} {i D : Nat} (hL : allOk D L) (h : i < L.length) : okB D L.length (uniC L i) := by
  have ho := hL _ (nth_mem h)
  have hnu := okA_num ho
  have := (iniF_ok hL h).2
  refine ⟨⟨by have := ho.2; show (nth L i).1.length = D; omega, hnu.1⟩, hnu.2.1, ⟨unit_len _ _, fun y hy => this y ?_⟩⟩
  unfold iniF
  exact List.mem_append_right _ (List.mem_cons_of_mem _ hy)
end Go.Proofs.Ytohoibekddhneaa.ZL
namespace Go.Proofs.Ytohoibekddhneaa.ZL
open Go Go.Proofs.Ytohoibekddhneaa.Abs Go.Proofs.Ytohoibekddhneaa.Abs.Pl Go.RowKit Go.Proofs
set_option linter.unusedVariables false
set_option linter.unusedSimpArgs false
set_option maxRecDepth 100000
theorem RefuteCell (d : Int) (L : List At) (h20 : L.length ≤ 1048576) : Cn Try.prog 15 [C1 d L] (.tup [Is (refS d L).1, B (refS d L).2]) hemp := by
  refine Cn.of [0] mixed Try.func15 rfl Try.call15 (by kernel_rfl) rfl ?_
  simp -implicitDefEqProofs -dsimp +contextual [-Bool.exists_bool, -Int.not_le, -Int.not_lt, -getElem?_pos, -List.getD_eq_getElem?_getD, Try.f15]
  by_cases hc : isCe d L = true
  rotate_left
  · have hcf : isCe d L = false := by simpa [-Bool.exists_bool, -Int.not_le, -Int.not_lt, -getElem?_pos, -List.getD_eq_getElem?_getD] using hc
    rw [refS, if_neg hc]
    refine WP.loop mixed [0] (fun i : Nat => ⟨tl [(1, .ptr (0, 0) 0), (4, .nil), (5, I 0)], Abs.hl [((0, 0), .box [I d, As L])], 1⟩) (fun i => i = 0) (fun i => 0 - i) 0 (by kernel_rfl) ?_ ?_ ?_
    · refine Le.told [] ?_ ?_ ?_ <;> simp [-Bool.exists_bool, -Int.not_le, -Int.not_lt, -getElem?_pos, -List.getD_eq_getElem?_getD]
    · rfl
    · rintro i rfl
      simp -implicitDefEqProofs -dsimp +contextual [-Bool.exists_bool, -Int.not_le, -Int.not_lt, -getElem?_pos, -List.getD_eq_getElem?_getD]
      refine ⟨fun h0 => ?_, fun h0 => ?_⟩
      · refine CallJ.pure (IsCell d L h20) rfl (by simp [-Bool.exists_bool, -Int.not_le, -Int.not_lt, -getElem?_pos, -List.getD_eq_getElem?_getD]) ?_
        simp -implicitDefEqProofs -dsimp +contextual [-Bool.exists_bool, -Int.not_le, -Int.not_lt, -getElem?_pos, -List.getD_eq_getElem?_getD, hcf, h0]
        refine WP.loop mixed [0] (fun i : Nat => ⟨tl [(1, .ptr (0, 0) 0), (4, .nil), (7, I (IntKind.wrap .i64 (d - 1)))], Abs.hl [((0, 0), .box [I d, As L])], 1⟩) (fun i => i = 0) (fun i => 0 - i) 0 (by kernel_rfl) ?_ ?_ ?_
        · refine Le.told [] ?_ ?_ ?_ <;> simp [-Bool.exists_bool, -Int.not_le, -Int.not_lt, -getElem?_pos, -List.getD_eq_getElem?_getD]
        · rfl
        · rintro i rfl
          simp -implicitDefEqProofs -dsimp +contextual [-Bool.exists_bool, -Int.not_le, -Int.not_lt, -getElem?_pos, -List.getD_eq_getElem?_getD]
          refine ⟨fun h1 => ?_, fun h1 => ?_⟩
          · refine CallJ.pure (IsCell d L h20) rfl (by simp [-Bool.exists_bool, -Int.not_le, -Int.not_lt, -getElem?_pos, -List.getD_eq_getElem?_getD]) ?_
            simp -implicitDefEqProofs -dsimp +contextual [-Bool.exists_bool, -Int.not_le, -Int.not_lt, -getElem?_pos, -List.getD_eq_getElem?_getD, hcf, h1]
            refine WP.loop mixed [0] (fun i : Nat => ⟨tl [(1, .ptr (0, 0) 0), (4, .nil), (14, I 0)], Abs.hl [((0, 0), .box [I d, As L])], 1⟩) (fun i => i = 0) (fun i => 0 - i) 0 (by kernel_rfl) ?_ ?_ ?_
            · refine Le.told [] ?_ ?_ ?_ <;> simp [-Bool.exists_bool, -Int.not_le, -Int.not_lt, -getElem?_pos, -List.getD_eq_getElem?_getD]
            · rfl
            · rintro i rfl
              simp -implicitDefEqProofs -dsimp +contextual [-Bool.exists_bool, -Int.not_le, -Int.not_lt, -getElem?_pos, -List.getD_eq_getElem?_getD]
              exact RLe.pure 2 (by simp [-Bool.exists_bool, -Int.not_le, -Int.not_lt, -getElem?_pos, -List.getD_eq_getElem?_getD])
          · refine WP.loop mixed [0] (fun i : Nat => ⟨tl [(1, .ptr (0, 0) 0), (4, .nil), (14, I 0)], Abs.hl [((0, 0), .box [I d, As L])], 1⟩) (fun i => i = 0) (fun i => 0 - i) 0 (by kernel_rfl) ?_ ?_ ?_
            · refine Le.told [] ?_ ?_ ?_ <;> simp [-Bool.exists_bool, -Int.not_le, -Int.not_lt, -getElem?_pos, -List.getD_eq_getElem?_getD]
            · rfl
            · rintro i rfl
              simp -implicitDefEqProofs -dsimp +contextual [-Bool.exists_bool, -Int.not_le, -Int.not_lt, -getElem?_pos, -List.getD_eq_getElem?_getD]
              exact RLe.pure 2 (by simp [-Bool.exists_bool, -Int.not_le, -Int.not_lt, -getElem?_pos, -List.getD_eq_getElem?_getD])
      · refine WP.loop mixed [0] (fun i : Nat => ⟨tl [(1, .ptr (0, 0) 0), (4, .nil), (7, I (IntKind.wrap .i64 (d - 1)))], Abs.hl [((0, 0), .box [I d, As L])], 1⟩) (fun i => i = 0) (fun i => 0 - i) 0 (by kernel_rfl) ?_ ?_ ?_
        · refine Le.told [] ?_ ?_ ?_ <;> simp [-Bool.exists_bool, -Int.not_le, -Int.not_lt, -getElem?_pos, -List.getD_eq_getElem?_getD]
        · rfl
        · rintro i rfl
          simp -implicitDefEqProofs -dsimp +contextual [-Bool.exists_bool, -Int.not_le, -Int.not_lt, -getElem?_pos, -List.getD_eq_getElem?_getD]
          refine ⟨fun h1 => ?_, fun h1 => ?_⟩
          · refine CallJ.pure (IsCell d L h20) rfl (by simp [-Bool.exists_bool, -Int.not_le, -Int.not_lt, -getElem?_pos, -List.getD_eq_getElem?_getD]) ?_
            simp -implicitDefEqProofs -dsimp +contextual [-Bool.exists_bool, -Int.not_le, -Int.not_lt, -getElem?_pos, -List.getD_eq_getElem?_getD, hcf, h1]
            refine WP.loop mixed [0] (fun i : Nat => ⟨tl [(1, .ptr (0, 0) 0), (4, .nil), (14, I 0)], Abs.hl [((0, 0), .box [I d, As L])], 1⟩) (fun i => i = 0) (fun i => 0 - i) 0 (by kernel_rfl) ?_ ?_ ?_
            · refine Le.told [] ?_ ?_ ?_ <;> simp [-Bool.exists_bool, -Int.not_le, -Int.not_lt, -getElem?_pos, -List.getD_eq_getElem?_getD]
            · rfl
            · rintro i rfl
              simp -implicitDefEqProofs -dsimp +contextual [-Bool.exists_bool, -Int.not_le, -Int.not_lt, -getElem?_pos, -List.getD_eq_getElem?_getD]
              exact RLe.pure 2 (by simp [-Bool.exists_bool, -Int.not_le, -Int.not_lt, -getElem?_pos, -List.getD_eq_getElem?_getD])
          · refine WP.loop mixed [0] (fun i : Nat => ⟨tl [(1, .ptr (0, 0) 0), (4, .nil), (14, I 0)], Abs.hl [((0, 0), .box [I d, As L])], 1⟩) (fun i => i = 0) (fun i => 0 - i) 0 (by kernel_rfl) ?_ ?_ ?_
            · refine Le.told [] ?_ ?_ ?_ <;> simp [-Bool.exists_bool, -Int.not_le, -Int.not_lt, -getElem?_pos, -List.getD_eq_getElem?_getD]
            · rfl
            · rintro i rfl
              simp -implicitDefEqProofs -dsimp +contextual [-Bool.exists_bool, -Int.not_le, -Int.not_lt, -getElem?_pos, -List.getD_eq_getElem?_getD]
              exact RLe.pure 2 (by simp [-Bool.exists_bool, -Int.not_le, -Int.not_lt, -getElem?_pos, -List.getD_eq_getElem?_getD])
  have hd := isCe_d hc
  have h16 := isCe_l hc
  have hok := isCe_a hc
  obtain ⟨Dn, rfl⟩ : ∃ n : Nat, d = n := ⟨d.toNat, by omega⟩
  have e0 : refS Dn L = (match jall Dn (iniC L L.length) with
      | none => ([], false)
      | some l => findS l) := by
    unfold refS
    rw [if_pos hc, Int.toNat_natCast]
    try rfl
  refine WP.loop mixed [0] (fun i : Nat => ⟨tl [(1, .ptr (0, 0) 0), (4, .ref (1, 0) i), (5, I i)], Abs.hl [((0, 0), .box [I Dn, As L]), ((1, 0), .row 86 i (dl (qsD (iniC L i))))], 2⟩) (fun i => i ≤ L.length) (fun i => L.length - i) 0 (by kernel_rfl) ?_ ?_ ?_
  · refine Le.trans (Le.nil 4 86 (by simp [-Bool.exists_bool, -Int.not_le, -Int.not_lt, -getElem?_pos, -List.getD_eq_getElem?_getD])) (Le.told [((1, 0), (6, 0))] ?_ ?_ ?_) <;> simp [-Bool.exists_bool, -Int.not_le, -Int.not_lt, -getElem?_pos, -List.getD_eq_getElem?_getD, setH, iniC]
  · simp [-Bool.exists_bool, -Int.not_le, -Int.not_lt, -getElem?_pos, -List.getD_eq_getElem?_getD]
  · intro i hi
    by_cases h : i < L.length
    · simp -implicitDefEqProofs -dsimp +contextual [-Bool.exists_bool, -Int.not_le, -Int.not_lt, -getElem?_pos, -List.getD_eq_getElem?_getD, h]
      refine CallJ.pure (IsCell Dn L h20) rfl (by simp [-Bool.exists_bool, -Int.not_le, -Int.not_lt, -getElem?_pos, -List.getD_eq_getElem?_getD]) ?_
      simp -implicitDefEqProofs -dsimp +contextual [-Bool.exists_bool, -Int.not_le, -Int.not_lt, -getElem?_pos, -List.getD_eq_getElem?_getD, h, hc]
      have h1 : i + 1 ≤ L.length := h
      have hmin : min i L.length = i := by omega
      refine ⟨⟨by omega, by simp [-Bool.exists_bool, -Int.not_le, -Int.not_lt, -getElem?_pos, -List.getD_eq_getElem?_getD, maxLen]; omega⟩, ?_⟩
      have hU : List.replicate i (D.int IntKind.i64 0) ++ D.int IntKind.i64 1 :: List.replicate (L.length - (i + 1)) (D.int IntKind.i64 0) = (unit L.length i).map (D.int .i64) := by
        unfold unit
        rw [List.map_set, List.map_replicate, List.set_eq_take_append_cons_drop, if_pos (by simp [-Bool.exists_bool, -Int.not_le, -Int.not_lt, -getElem?_pos, -List.getD_eq_getElem?_getD]; exact h)]
        simp [-Bool.exists_bool, -Int.not_le, -Int.not_lt, -getElem?_pos, -List.getD_eq_getElem?_getD, hmin]
      simp -implicitDefEqProofs -dsimp +contextual [-Bool.exists_bool, -Int.not_le, -Int.not_lt, -getElem?_pos, -List.getD_eq_getElem?_getD, h, hc, h1, hmin, hU]
      have ho := hok _ (nth_mem h)
      have hcl : (nth L i).1.length = Dn := by have := ho.2; omega
      refine ⟨⟨by omega, by simp [-Bool.exists_bool, -Int.not_le, -Int.not_lt, -getElem?_pos, -List.getD_eq_getElem?_getD, maxLen]; omega⟩, ⟨by omega, by simp [-Bool.exists_bool, -Int.not_le, -Int.not_lt, -getElem?_pos, -List.getD_eq_getElem?_getD, maxLen]; omega⟩, Quiet.of [] (by kernel_rfl) (by simp [-Bool.exists_bool, -Int.not_le, -Int.not_lt, -getElem?_pos, -List.getD_eq_getElem?_getD, allP, offB]), i + 1, h, by omega, ?_⟩
      rw [wr (x := (i : Int) + 1) (by omega) (by omega)]
      have hul := unit_len L.length i
      have hi1 : dl (qsD (iniC L (i + 1))) = dl (qsD (iniC L i)) ++ [V.d (.sl (nth L i).1.length ((nth L i).1.map (D.int .i64))), I (nth L i).2.1, B (nth L i).2.2, V.d (.sl L.length ((unit L.length i).map (D.int .i64)))] := by
        unfold iniC
        rw [List.range_succ, List.map_append, qsD_append]
        unfold dl
        rw [List.map_append]
        simp [-Bool.exists_bool, -Int.not_le, -Int.not_lt, -getElem?_pos, -List.getD_eq_getElem?_getD, qsD, qD, uniC, hul]
      refine Le.trans (S' := ⟨tl [(1, .ptr (0, 0) 0), (4, .ref (1, 0) (i + 1)), (5, I ((i : Int) + 1))], Abs.hl [((0, 0), .box [I Dn, As L]), ((1, 0), .row 86 (i + 1) (dl (qsD (iniC L i)) ++ [.ref (2, 0) (nth L i).1.length, I (nth L i).2.1, B (nth L i).2.2, .ref (3, 0) L.length])), ((2, 0), .fz (nth L i).1.length ((nth L i).1.map (D.int .i64))), ((3, 0), .fz L.length ((unit L.length i).map (D.int .i64)))], 4⟩) (Le.told [((1, 0), (44, 0)), ((2, 0), (28, 0)), ((3, 0), (14, 0))] ?_ ?_ ?_) (Le.told [] ?_ ?_ ?_)
      all_goals simp [-Bool.exists_bool, -Int.not_le, -Int.not_lt, -getElem?_pos, -List.getD_eq_getElem?_getD]
      · exact VLes_app (VLes_refl_d _ _ _ _) (by simp [-Bool.exists_bool, -Int.not_le, -Int.not_lt, -getElem?_pos, -List.getD_eq_getElem?_getD, VLes, VLe])
      · rw [hi1]
        exact VLes_app (VLes_refl_d _ _ _ _) (by simp [-Bool.exists_bool, -Int.not_le, -Int.not_lt, -getElem?_pos, -List.getD_eq_getElem?_getD, VLes, VLe, asDz])
    · obtain rfl : i = L.length := by omega
      have hlok : okBs Dn L.length (iniC L L.length) := by
        refine ⟨by simp [-Bool.exists_bool, -Int.not_le, -Int.not_lt, -getElem?_pos, -List.getD_eq_getElem?_getD, iniC]; omega, fun x hx => ?_⟩
        obtain ⟨j, hj, rfl⟩ := List.mem_map.1 hx
        exact uniC_ok hok (List.mem_range.1 hj)
      have hil : (iniC L L.length).length = L.length := by simp [-Bool.exists_bool, -Int.not_le, -Int.not_lt, -getElem?_pos, -List.getD_eq_getElem?_getD, iniC]
      generalize iniC L L.length = l0 at *
      simp -implicitDefEqProofs -dsimp +contextual [-Bool.exists_bool, -Int.not_le, -Int.not_lt, -getElem?_pos, -List.getD_eq_getElem?_getD, h]
      refine WP.loopF mixed [0] (fun p : Nat × List Cb => ⟨tl [(1, .ptr (0, 0) 0), (4, Ql p.2), (7, I ((p.1 : Int) - 1))], Abs.hl [((0, 0), .box [I Dn, As L])], 1⟩) (fun p => p.1 ≤ Dn ∧ okBs Dn L.length p.2 ∧ jall Dn l0 = jall p.1 p.2) (fun p => p.1) (Dn, l0) (by kernel_rfl) ?_ ?_ ?_
      · rw [wr (x := (Dn : Int) - 1) (by omega) (by omega)]
        refine Le.trans (S' := ⟨tl [(1, .ptr (0, 0) 0), (4, .ref (1, 0) L.length), (7, I ((Dn : Int) - 1))], Abs.hl [((0, 0), .box [I Dn, As L]), ((1, 0), .fz L.length (qsD l0))], 2⟩) (Le.told [] ?_ ?_ ?_) (Le.told [] ?_ ?_ ?_)
        all_goals simp [-Bool.exists_bool, -Int.not_le, -Int.not_lt, -getElem?_pos, -List.getD_eq_getElem?_getD, hil]
      · exact ⟨Nat.le_refl _, hlok, rfl⟩
      · clear hlok hil
        rintro ⟨m, l⟩ ⟨hm, hl, he⟩
        simp only at hm hl he
        refine ⟨_, Le.refl _ _ _, ?_⟩
        cases m with
        | zero =>
          rw [jall] at he
          rw [he] at e0
          have e0 : refS Dn L = findS l := e0
          simp -implicitDefEqProofs -dsimp +contextual [-Bool.exists_bool, -Int.not_le, -Int.not_lt, -getElem?_pos, -List.getD_eq_getElem?_getD]
          have hl64 := hl.1
          refine WP.loop mixed [0] (fun i : Nat => ⟨tl [(1, .ptr (0, 0) 0), (4, Ql l), (14, I i)], Abs.hl [((0, 0), .box [I Dn, As L])], 1⟩) (fun i => i ≤ l.length ∧ findS l = findS (l.drop i)) (fun i => l.length - i) 0 (by kernel_rfl) ?_ ?_ ?_
          · refine Le.told [] ?_ ?_ ?_ <;> simp [-Bool.exists_bool, -Int.not_le, -Int.not_lt, -getElem?_pos, -List.getD_eq_getElem?_getD]
          · exact ⟨Nat.zero_le _, by simp [-Bool.exists_bool, -Int.not_le, -Int.not_lt, -getElem?_pos, -List.getD_eq_getElem?_getD]⟩
          · rintro i ⟨hi, hef⟩
            by_cases h : i < l.length
            · simp -implicitDefEqProofs -dsimp +contextual [-Bool.exists_bool, -Int.not_le, -Int.not_lt, -getElem?_pos, -List.getD_eq_getElem?_getD, h]
              refine CallJ.pure (IsCell Dn L h20) rfl (by simp [-Bool.exists_bool, -Int.not_le, -Int.not_lt, -getElem?_pos, -List.getD_eq_getElem?_getD]) ?_
              simp -implicitDefEqProofs -dsimp +contextual [-Bool.exists_bool, -Int.not_le, -Int.not_lt, -getElem?_pos, -List.getD_eq_getElem?_getD, h, hc]
              rw [nth_drop h, findS] at hef
              rw [e0]
              generalize nth l i = x at hef ⊢
              unfold hitS at hef
              refine ⟨fun h1 => ?_, fun h1 => ?_⟩
              · simp [-Bool.exists_bool, -Int.not_le, -Int.not_lt, -getElem?_pos, -List.getD_eq_getElem?_getD, h1] at hef
                rw [hef]
                exact RLe.pure 2 (by simp [-Bool.exists_bool, -Int.not_le, -Int.not_lt, -getElem?_pos, -List.getD_eq_getElem?_getD])
              · refine ⟨fun h2 => ⟨fun h3 => ?_, fun h3 => ?_⟩, fun h2 => ?_⟩
                · simp [-Bool.exists_bool, -Int.not_le, -Int.not_lt, -getElem?_pos, -List.getD_eq_getElem?_getD, h1, h2, h3] at hef
                  rw [hef]
                  exact RLe.pure 2 (by simp [-Bool.exists_bool, -Int.not_le, -Int.not_lt, -getElem?_pos, -List.getD_eq_getElem?_getD])
                all_goals
                  first
                  | simp [-Bool.exists_bool, -Int.not_le, -Int.not_lt, -getElem?_pos, -List.getD_eq_getElem?_getD, h1, h2, h3] at hef
                  | simp [-Bool.exists_bool, -Int.not_le, -Int.not_lt, -getElem?_pos, -List.getD_eq_getElem?_getD, h1, h2] at hef
                  refine ⟨i + 1, ⟨h, hef⟩, by omega, ?_⟩
                  rw [wr (by omega) (by omega)]
                  refine Le.told [] ?_ ?_ ?_ <;> simp [-Bool.exists_bool, -Int.not_le, -Int.not_lt, -getElem?_pos, -List.getD_eq_getElem?_getD]
            · rw [drop_nil (by omega), findS] at hef
              simp -implicitDefEqProofs -dsimp +contextual [-Bool.exists_bool, -Int.not_le, -Int.not_lt, -getElem?_pos, -List.getD_eq_getElem?_getD, h]
              rw [e0, hef]
              exact RLe.pure 2 (by simp [-Bool.exists_bool, -Int.not_le, -Int.not_lt, -getElem?_pos, -List.getD_eq_getElem?_getD])
        | succ v =>
          have e1 : ((v + 1 : Nat) : Int) - 1 = (v : Int) := by omega
          rw [e1]
          rw [jall] at he
          simp -implicitDefEqProofs -dsimp +contextual [-Bool.exists_bool, -Int.not_le, -Int.not_lt, -getElem?_pos, -List.getD_eq_getElem?_getD]
          refine CallJ.pure (IsCell Dn L h20) rfl (by simp [-Bool.exists_bool, -Int.not_le, -Int.not_lt, -getElem?_pos, -List.getD_eq_getElem?_getD]) ?_
          have hl64 := hl.1
          simp -implicitDefEqProofs -dsimp +contextual [-Bool.exists_bool, -Int.not_le, -Int.not_lt, -getElem?_pos, -List.getD_eq_getElem?_getD, hc]
          refine WP.loop mixed [0] (fun p : Nat × List Cb => ⟨tl [(1, .ptr (0, 0) 0), (4, Ql l), (7, I v), (8, .ref (1, 0) p.2.length), (9, I p.1)], Abs.hl [((0, 0), .box [I Dn, As L]), ((1, 0), .row 86 p.2.length (dl (qsD p.2)))], 2⟩) (fun p => p.1 ≤ l.length ∧ p.2 = (l.take p.1).filter (freeS v)) (fun p => l.length - p.1) (0, []) (by kernel_rfl) ?_ ?_ ?_
          · refine Le.trans (Le.nil 8 86 (by simp [-Bool.exists_bool, -Int.not_le, -Int.not_lt, -getElem?_pos, -List.getD_eq_getElem?_getD])) (Le.told [((1, 0), (10, 0))] ?_ ?_ ?_) <;> simp [-Bool.exists_bool, -Int.not_le, -Int.not_lt, -getElem?_pos, -List.getD_eq_getElem?_getD, setH]
          · exact ⟨Nat.zero_le _, by simp [-Bool.exists_bool, -Int.not_le, -Int.not_lt, -getElem?_pos, -List.getD_eq_getElem?_getD]⟩
          · rintro ⟨i, acc⟩ ⟨hi, ha⟩
            simp only at hi ha
            have hacl : acc.length ≤ 64 := by
              rw [ha]
              have := List.length_filter_le (freeS v) (l.take i)
              have := List.length_take_le i l
              omega
            by_cases h : i < l.length
            · have hvl : v < (nth l i).s.length := by rw [(hl.2 _ (nth_mem h)).s.1]; omega
              have hta := nth_take h
              have htl : (nth l i).t.length = L.length := (hl.2 _ (nth_mem h)).t.1
              simp -implicitDefEqProofs -dsimp +contextual [-Bool.exists_bool, -Int.not_le, -Int.not_lt, -getElem?_pos, -List.getD_eq_getElem?_getD, h, hvl]
              refine ⟨fun h0 => ?_, fun h0 => ?_⟩
              · refine ⟨⟨by omega, by simp [-Bool.exists_bool, -Int.not_le, -Int.not_lt, -getElem?_pos, -List.getD_eq_getElem?_getD, maxLen]; omega⟩, i + 1, acc ++ [nth l i], ⟨h, ?_⟩, by omega, ?_⟩
                · rw [hta, List.filter_append, ← ha]
                  simp [-Bool.exists_bool, -Int.not_le, -Int.not_lt, -getElem?_pos, -List.getD_eq_getElem?_getD, freeS, h0]
                · rw [wr (x := (i : Int) + 1) (by omega) (by omega)]
                  refine Le.told [((1, 0), (21, 0))] ?_ ?_ ?_
                  all_goals simp [-Bool.exists_bool, -Int.not_le, -Int.not_lt, -getElem?_pos, -List.getD_eq_getElem?_getD]
                  rw [qsD_append]
                  simp [-Bool.exists_bool, -Int.not_le, -Int.not_lt, -getElem?_pos, -List.getD_eq_getElem?_getD, qsD, qD]
              · refine ⟨i + 1, acc, ⟨h, ?_⟩, by omega, ?_⟩
                · rw [hta, List.filter_append, ← ha]
                  simp [-Bool.exists_bool, -Int.not_le, -Int.not_lt, -getElem?_pos, -List.getD_eq_getElem?_getD, freeS, h0]
                · rw [wr (x := (i : Int) + 1) (by omega) (by omega)]
                  refine Le.told [] ?_ ?_ ?_ <;> simp [-Bool.exists_bool, -Int.not_le, -Int.not_lt, -getElem?_pos, -List.getD_eq_getElem?_getD]
            · have hal : acc = l.filter (freeS v) := by rw [ha, List.take_of_length_le (by omega)]
              have haok : ∀ b ∈ acc, okB Dn L.length b := fun b hb => by rw [hal] at hb; exact hl.2 b (List.mem_filter.1 hb).1
              have ej : jdrop v l = jOut v l l acc := by rw [jdrop, hal]
              rw [ej] at he
              clear ha hal ej
              simp -implicitDefEqProofs -dsimp +contextual [-Bool.exists_bool, -Int.not_le, -Int.not_lt, -getElem?_pos, -List.getD_eq_getElem?_getD, h]
              refine WP.loopF mixed [0] (fun p : Nat × List Cb => ⟨tl [(1, .ptr (0, 0) 0), (4, Ql l), (7, I v), (8, .ref (1, 0) p.2.length), (10, I p.1)], Abs.hl [((0, 0), .box [I Dn, As L]), ((1, 0), .row 86 p.2.length (dl (qsD p.2)))], 2⟩) (fun p => p.1 ≤ l.length ∧ okBs Dn L.length p.2 ∧ jOut v l l acc = jOut v l (l.drop p.1) p.2) (fun p => l.length - p.1) (0, acc) (by kernel_rfl) ?_ ?_ ?_
              · refine Le.told [] ?_ ?_ ?_ <;> simp [-Bool.exists_bool, -Int.not_le, -Int.not_lt, -getElem?_pos, -List.getD_eq_getElem?_getD]
              · exact ⟨Nat.zero_le _, ⟨hacl, haok⟩, rfl⟩
              · clear hacl haok
                rintro ⟨i, ac⟩ ⟨hi, hac, hea⟩
                simp only at hi hac hea
                by_cases h : i < l.length
                · refine ⟨_, Le.refl _ _ _, ?_⟩
                  have hva : v < (nth l i).s.length := by rw [(hl.2 _ (nth_mem h)).s.1]; omega
                  have hoa := hl.2 _ (nth_mem h)
                  rw [nth_drop h, jOut] at hea
                  have hae : ∃ a, nth l i = a := ⟨_, rfl⟩
                  obtain ⟨a, hae⟩ := hae
                  rw [hae] at hva hoa hea
                  simp -implicitDefEqProofs -dsimp +contextual [-Bool.exists_bool, -Int.not_le, -Int.not_lt, -getElem?_pos, -List.getD_eq_getElem?_getD, h]
                  refine WP.loop mixed [0] (fun p : Nat × List Cb => ⟨tl [(1, .ptr (0, 0) 0), (4, Ql l), (7, I v), (8, .ref (1, 0) p.2.length), (10, I i), (11, I p.1)], Abs.hl [((0, 0), .box [I Dn, As L]), ((1, 0), .row 86 p.2.length (dl (qsD p.2)))], 2⟩) (fun p => p.1 ≤ l.length ∧ okBs Dn L.length p.2 ∧ jOut v l l acc = (if nth a.s v ≤ 0 then some p.2 else jIn v a (l.drop p.1) p.2).bind (jOut v l (l.drop (i + 1)))) (fun p => l.length - p.1) (0, ac) (by kernel_rfl) ?_ ?_ ?_
                  · refine Le.told [] ?_ ?_ ?_ <;> simp [-Bool.exists_bool, -Int.not_le, -Int.not_lt, -getElem?_pos, -List.getD_eq_getElem?_getD]
                  · refine ⟨Nat.zero_le _, hac, ?_⟩
                    rw [hea]
                    split <;> simp [-Bool.exists_bool, -Int.not_le, -Int.not_lt, -getElem?_pos, -List.getD_eq_getElem?_getD]
                  · clear hac hea
                    rintro ⟨k, a2⟩ ⟨hk, ha2, hek⟩
                    simp only at hk ha2 hek
                    by_cases hkl : k < l.length
                    · have hvb : v < (nth l k).s.length := by rw [(hl.2 _ (nth_mem hkl)).s.1]; omega
                      have hob := hl.2 _ (nth_mem hkl)
                      rw [nth_drop hkl, jIn] at hek
                      have hbe : ∃ b, nth l k = b := ⟨_, rfl⟩
                      obtain ⟨b, hbe⟩ := hbe
                      rw [hbe] at hvb hob hek
                      have na := isNum_iff.1 (hoa.s.2 _ (nth_mem hva))
                      have nb := isNum_iff.1 (hob.s.2 _ (nth_mem hvb))
                      simp -implicitDefEqProofs -dsimp +contextual [-Bool.exists_bool, -Int.not_le, -Int.not_lt, -getElem?_pos, -List.getD_eq_getElem?_getD, h, hkl, hae, hbe, hva, hvb]
                      refine ⟨fun h0 => ?_, fun h0 => ?_⟩
                      · rw [if_pos h0, Option.bind_some] at hek
                        refine ⟨k + 1, a2, ⟨hkl, ha2, ?_⟩, by omega, ?_⟩
                        · exact hek
                        · rw [wr (x := (k : Int) + 1) (by omega) (by omega)]
                          refine Le.told [] ?_ ?_ ?_ <;> simp [-Bool.exists_bool, -Int.not_le, -Int.not_lt, -getElem?_pos, -List.getD_eq_getElem?_getD]
                      · rw [if_neg h0] at hek
                        refine ⟨fun h1 => ?_, fun h1 => ?_⟩
                        · rw [if_pos h1] at hek
                          refine ⟨k + 1, a2, ⟨hkl, ha2, ?_⟩, by omega, ?_⟩
                          · exact hek
                          · rw [wr (x := (k : Int) + 1) (by omega) (by omega)]
                            refine Le.told [] ?_ ?_ ?_ <;> simp [-Bool.exists_bool, -Int.not_le, -Int.not_lt, -getElem?_pos, -List.getD_eq_getElem?_getD]
                        · rw [if_neg h1] at hek
                          rw [wr (x := -(nth b.s v)) (by omega) (by omega)]
                          have hC := l3Join Dn L.length a (-(nth b.s v)) b (nth a.s v) hoa hob (by omega) (by omega) ⟨by omega, by omega⟩ ⟨by omega, by omega⟩
                          have hCo := joinC_ok (p := -(nth b.s v)) (q := nth a.s v) hoa hob
                          generalize joinC a (-(nth b.s v)) b (nth a.s v) = z at hC hCo hek
                          obtain ⟨z, f⟩ := z
                          simp only at hC hCo hek
                          refine CallJ.pure hC rfl (by simp [-Bool.exists_bool, -Int.not_le, -Int.not_lt, -getElem?_pos, -List.getD_eq_getElem?_getD]) ?_
                          simp -implicitDefEqProofs -dsimp +contextual [-Bool.exists_bool, -Int.not_le, -Int.not_lt, -getElem?_pos, -List.getD_eq_getElem?_getD, h, hkl]
                          refine ⟨Quiet.of [] (by kernel_rfl) (by simp [-Bool.exists_bool, -Int.not_le, -Int.not_lt, -getElem?_pos, -List.getD_eq_getElem?_getD, allP, offB]), fun hf => ?_, fun hf => ?_⟩
                          · refine ⟨fun h64 => ?_, fun h64 => ?_⟩
                            · rw [if_pos (.inr (by omega)), Option.bind_none] at hek
                              rw [hek, Option.bind_none] at he
                              rw [he] at e0
                              rw [e0]
                              exact RLe.pure 2 (by simp [-Bool.exists_bool, -Int.not_le, -Int.not_lt, -getElem?_pos, -List.getD_eq_getElem?_getD])
                            · have hno : ¬ (f = false ∨ 64 ≤ a2.length) := by
                                rintro (hh | hh)
                                · rw [hf] at hh; cases hh
                                · omega
                              rw [if_neg hno] at hek
                              refine ⟨⟨by omega, by simp [-Bool.exists_bool, -Int.not_le, -Int.not_lt, -getElem?_pos, -List.getD_eq_getElem?_getD, maxLen]; omega⟩, k + 1, a2 ++ [z], ⟨hkl, ⟨by simp [-Bool.exists_bool, -Int.not_le, -Int.not_lt, -getElem?_pos, -List.getD_eq_getElem?_getD]; omega, fun b hb => ?_⟩, ?_⟩, by omega, ?_⟩
                              · rcases List.mem_append.1 hb with hb | hb
                                · exact ha2.2 b hb
                                · rw [List.mem_singleton.1 hb]; exact hCo hf
                              · simp [-Bool.exists_bool, -Int.not_le, -Int.not_lt, -getElem?_pos, -List.getD_eq_getElem?_getD, h0]; exact hek
                              · rw [wr (x := (k : Int) + 1) (by omega) (by omega)]
                                refine Le.told [((1, 0), (68, 0))] ?_ ?_ ?_
                                all_goals simp [-Bool.exists_bool, -Int.not_le, -Int.not_lt, -getElem?_pos, -List.getD_eq_getElem?_getD]
                                rw [qsD_append]
                                simp [-Bool.exists_bool, -Int.not_le, -Int.not_lt, -getElem?_pos, -List.getD_eq_getElem?_getD, qsD, qD]
                          · rw [if_pos (.inl hf), Option.bind_none] at hek
                            rw [hek, Option.bind_none] at he
                            rw [he] at e0
                            rw [e0]
                            exact RLe.pure 2 (by simp [-Bool.exists_bool, -Int.not_le, -Int.not_lt, -getElem?_pos, -List.getD_eq_getElem?_getD])
                    · rw [drop_nil (by omega), jIn] at hek
                      simp -implicitDefEqProofs -dsimp +contextual [-Bool.exists_bool, -Int.not_le, -Int.not_lt, -getElem?_pos, -List.getD_eq_getElem?_getD, h, hkl]
                      refine ⟨i + 1, a2, ⟨h, ha2, ?_⟩, by omega, ?_⟩
                      · rw [hek]; split <;> simp [-Bool.exists_bool, -Int.not_le, -Int.not_lt, -getElem?_pos, -List.getD_eq_getElem?_getD]
                      · rw [wr (x := (i : Int) + 1) (by omega) (by omega)]
                        refine Le.told [] ?_ ?_ ?_ <;> simp [-Bool.exists_bool, -Int.not_le, -Int.not_lt, -getElem?_pos, -List.getD_eq_getElem?_getD]
                · obtain rfl : i = l.length := by omega
                  rw [drop_nil (by omega), jOut] at hea
                  rw [hea, Option.bind_some] at he
                  refine ⟨⟨tl [(1, .ptr (0, 0) 0), (4, Ql l), (7, I v), (8, Ql ac), (10, I l.length)], Abs.hl [((0, 0), .box [I Dn, As L])], 1⟩, Le.trans (S' := ⟨tl [(1, .ptr (0, 0) 0), (4, Ql l), (7, I v), (8, .ref (1, 0) ac.length), (10, I l.length)], Abs.hl [((0, 0), .box [I Dn, As L]), ((1, 0), .fz ac.length (qsD ac))], 2⟩) (Le.told [] ?_ ?_ ?_) (Le.told [] ?_ ?_ ?_), ?_⟩
                  all_goals first | (simp [-Bool.exists_bool, -Int.not_le, -Int.not_lt, -getElem?_pos, -List.getD_eq_getElem?_getD]; done) | skip
                  simp -implicitDefEqProofs -dsimp +contextual [-Bool.exists_bool, -Int.not_le, -Int.not_lt, -getElem?_pos, -List.getD_eq_getElem?_getD, h]
                  refine ⟨v, ac, ⟨by omega, hac, he⟩, by omega, ?_⟩
                  rw [wr (x := (v : Int) - 1) (by omega) (by omega)]
                  refine Le.told [] ?_ ?_ ?_ <;> simp [-Bool.exists_bool, -Int.not_le, -Int.not_lt, -getElem?_pos, -List.getD_eq_getElem?_getD]
end Go.Proofs.Ytohoibekddhneaa.ZL
namespace Go.Proofs.Ytohoibekddhneaa.ZL
open Go Go.Proofs.Ytohoibekddhneaa.Abs Go.Proofs.Ytohoibekddhneaa.Abs.Pl Go.RowKit Go.Proofs
set_option linter.unusedVariables false
set_option linter.unusedSimpArgs false
def fl (x : Cb) : List Int := x.s ++ x.k :: x.t
theorem gcdL_app (a b : List Int) : gcdL (a ++ b) = Nat.gcd (gcdL a) (gcdL b) := by
  induction a with
  | nil => simp [-Bool.exists_bool, -Int.not_le, -Int.not_lt, -getElem?_pos, -List.getD_eq_getElem?_getD, gcdL, gcdF]
  | cons x a ih => rw [List.cons_append, gcdL_cons, gcdL_cons, ih, Nat.gcd_assoc]
theorem fl_gcd (S : List Int) (K : Int) (T : List Int) : gcdL (S ++ K :: T) = Nat.gcd K.natAbs (gcdL (S ++ T)) := by
  rw [gcdL_app, gcdL_cons, gcdL_app, ← Nat.gcd_assoc, Nat.gcd_comm (gcdL S), Nat.gcd_assoc]
theorem fl_comb {d n : Nat} {a b : Cb} (ha : okB d n a) (hb : okB d n b) (p q : Int) :
    combF (fl a) p (fl b) q = if (joinC a p b q).2 = true then some (fl (joinC a p b q).1) else none := by
  have e1 : mixL p (fl a) q (fl b) = joinS a p b q ++ joinK a p b q :: joinT a p b q := by
    unfold mixL fl joinS joinT joinK mixL
    rw [List.zipWith_append (by rw [ha.s.1, hb.s.1])]
    simp [-Bool.exists_bool, -Int.not_le, -Int.not_lt, -getElem?_pos, -List.getD_eq_getElem?_getD]
  have e2 : divAll (mixL p (fl a) q (fl b)) = fl (joinC a p b q).1 := by
    unfold divAll
    rw [e1, fl_gcd]
    simp [-Bool.exists_bool, -Int.not_le, -Int.not_lt, -getElem?_pos, -List.getD_eq_getElem?_getD, fl, joinC, joinG, jg, dv]
  have e3 : (fl (joinC a p b q).1).all isNum = (joinC a p b q).2 := by
    simp only [fl, joinC, List.all_append, List.all_cons]
    rw [← Bool.and_assoc, ← Bool.and_assoc, Bool.and_comm (isNum _)]
  unfold combF
  rw [e2, e3]
theorem fl_nth {d n v : Nat} {a : Cb} (ha : okB d n a) (hv : v < d) : nth (fl a) v = nth a.s v := by
  have h1 : v < a.s.length := by rw [ha.s.1]; exact hv
  rw [nth_eq h1, nth_eq (by simp [-Bool.exists_bool, -Int.not_le, -Int.not_lt, -getElem?_pos, -List.getD_eq_getElem?_getD, fl]; omega)]
  simp [-Bool.exists_bool, -Int.not_le, -Int.not_lt, -getElem?_pos, -List.getD_eq_getElem?_getD, fl, List.getElem_append_left h1]
theorem jIn_fl {d n v : Nat} {a : Cb} (ha : okB d n a) (hv : v < d) : ∀ {bs acc : List Cb}, (∀ b ∈ bs, okB d n b) → acc.length ≤ 64 → rjIn v (fl a) (bs.map fl) (acc.map fl) = (jIn v a bs acc).map (·.map fl)
  | [], acc, _, _ => by simp [-Bool.exists_bool, -Int.not_le, -Int.not_lt, -getElem?_pos, -List.getD_eq_getElem?_getD, rjIn, jIn]
  | b :: bs, acc, hb, hl => by
    have hbo := hb b (by simp [-Bool.exists_bool, -Int.not_le, -Int.not_lt, -getElem?_pos, -List.getD_eq_getElem?_getD])
    have hb' : ∀ x ∈ bs, okB d n x := fun x hx => hb x (by simp [-Bool.exists_bool, -Int.not_le, -Int.not_lt, -getElem?_pos, -List.getD_eq_getElem?_getD, hx])
    rw [List.map_cons, rjIn, jIn, fl_nth hbo hv, fl_nth ha hv, fl_comb ha hbo]
    split
    · exact jIn_fl ha hv hb' hl
    · cases hz : (joinC a (-(nth b.s v)) b (nth a.s v)).2 with
      | false => simp [-Bool.exists_bool, -Int.not_le, -Int.not_lt, -getElem?_pos, -List.getD_eq_getElem?_getD]
      | true =>
        simp only [if_true, List.length_map, Bool.true_eq_false, false_or]
        by_cases h64 : acc.length = 64
        · rw [if_pos h64, if_pos (by omega)]; rfl
        · rw [if_neg h64, if_neg (by omega)]
          have := jIn_fl ha hv (acc := acc ++ [(joinC a (-(nth b.s v)) b (nth a.s v)).1]) hb' (by simp [-Bool.exists_bool, -Int.not_le, -Int.not_lt, -getElem?_pos, -List.getD_eq_getElem?_getD]; omega)
          rw [← this]
          simp [-Bool.exists_bool, -Int.not_le, -Int.not_lt, -getElem?_pos, -List.getD_eq_getElem?_getD]
theorem jOut_fl {d n v : Nat} {l : List Cb} (hl : ∀ a ∈ l, okB d n a) (hv : v < d) : ∀ {T acc : List Cb}, (∀ b ∈ T, okB d n b) → okBs d n acc → rjOut v (l.map fl) (T.map fl) (acc.map fl) = (jOut v l T acc).map (·.map fl)
  | [], acc, _, _ => by simp [-Bool.exists_bool, -Int.not_le, -Int.not_lt, -getElem?_pos, -List.getD_eq_getElem?_getD, rjOut, jOut]
  | a :: T, acc, hb, ho => by
    have hao := hb a (by simp [-Bool.exists_bool, -Int.not_le, -Int.not_lt, -getElem?_pos, -List.getD_eq_getElem?_getD])
    have hb' : ∀ x ∈ T, okB d n x := fun x hx => hb x (by simp [-Bool.exists_bool, -Int.not_le, -Int.not_lt, -getElem?_pos, -List.getD_eq_getElem?_getD, hx])
    rw [List.map_cons, rjOut, jOut, fl_nth hao hv]
    split
    · exact jOut_fl hl hv hb' ho
    · rw [jIn_fl hao hv hl ho.1]
      cases hz : jIn v a l acc with
      | none => simp [-Bool.exists_bool, -Int.not_le, -Int.not_lt, -getElem?_pos, -List.getD_eq_getElem?_getD]
      | some z =>
        simp only [Option.map_some, Option.bind_some]
        exact jOut_fl hl hv hb' (jIn_ok hao hl ho hz)
theorem jdrop_fl {d n v : Nat} {l : List Cb} (hl : okBs d n l) (hv : v < d) : rdrop v (l.map fl) = (jdrop v l).map (·.map fl) := by
  unfold rdrop jdrop
  have e : (l.map fl).filter (freeF v) = (l.filter (freeS v)).map fl := by
    rw [List.filter_map]
    congr 1
    refine List.filter_congr fun x hx => ?_
    simp only [Function.comp, freeF, freeS, fl_nth (hl.2 x hx) hv]
  rw [e]
  exact jOut_fl hl.2 hv hl.2 ⟨by have := List.length_filter_le (freeS v) l; have := hl.1; omega, fun b hb => hl.2 b (List.mem_filter.1 hb).1⟩
theorem jall_fl {d n : Nat} : ∀ {m : Nat} {l : List Cb}, okBs d n l → m ≤ d → rallF m (l.map fl) = (jall m l).map (·.map fl)
  | 0, l, _, _ => by simp [-Bool.exists_bool, -Int.not_le, -Int.not_lt, -getElem?_pos, -List.getD_eq_getElem?_getD, rallF, jall]
  | m + 1, l, hl, hm => by
    rw [rallF, jall, jdrop_fl hl (by omega)]
    cases hz : jdrop m l with
    | none => simp [-Bool.exists_bool, -Int.not_le, -Int.not_lt, -getElem?_pos, -List.getD_eq_getElem?_getD]
    | some z =>
      simp only [Option.map_some, Option.bind_some]
      exact jall_fl (jdrop_ok hl hz) (by omega)
def totA : List Int → List At → (At → Int) → Int
  | n :: ns, a :: L, f => n * f a + totA ns L f
  | _, _, _ => 0
def anyS : List Int → List At → Bool
  | n :: ns, a :: L => (decide (0 < n) && a.2.2) || anyS ns L
  | _, _ => false
theorem totA_mix (p q : Int) (f : At → Int) : ∀ {t u : List Int} {L : List At}, t.length = u.length → totA (mixL p t q u) L f = p * totA t L f + q * totA u L f
  | [], [], L, _ => by simp [-Bool.exists_bool, -Int.not_le, -Int.not_lt, -getElem?_pos, -List.getD_eq_getElem?_getD, mixL, totA]
  | x :: t, y :: u, [], _ => by simp [-Bool.exists_bool, -Int.not_le, -Int.not_lt, -getElem?_pos, -List.getD_eq_getElem?_getD, mixL, totA]
  | x :: t, y :: u, a :: L, h => by
    have := totA_mix p q f (t := t) (u := u) (L := L) (by simpa [-Bool.exists_bool, -Int.not_le, -Int.not_lt, -getElem?_pos, -List.getD_eq_getElem?_getD] using h)
    have e : mixL p (x :: t) q (y :: u) = (p * x + q * y) :: mixL p t q u := rfl
    rw [e, totA, totA, totA, this, Int.mul_add, Int.mul_add, Int.add_mul, Int.mul_assoc, Int.mul_assoc]
    omega
theorem totA_dv {g : Int} (f : At → Int) : ∀ {t : List Int} {L : List At}, (∀ y ∈ t, g ∣ y) → g * totA (dv g t) L f = totA t L f
  | [], L, _ => by simp [-Bool.exists_bool, -Int.not_le, -Int.not_lt, -getElem?_pos, -List.getD_eq_getElem?_getD, dv, totA]
  | x :: t, [], _ => by simp [-Bool.exists_bool, -Int.not_le, -Int.not_lt, -getElem?_pos, -List.getD_eq_getElem?_getD, dv, totA]
  | x :: t, a :: L, h => by
    have := totA_dv f (t := t) (L := L) (fun y hy => h y (by simp [-Bool.exists_bool, -Int.not_le, -Int.not_lt, -getElem?_pos, -List.getD_eq_getElem?_getD, hy]))
    have e : dv g (x :: t) = x.tdiv g :: dv g t := rfl
    rw [e, totA, totA, Int.mul_add, this, ← Int.mul_assoc, Int.mul_tdiv_cancel' (h x (by simp [-Bool.exists_bool, -Int.not_le, -Int.not_lt, -getElem?_pos, -List.getD_eq_getElem?_getD]))]
theorem anyS_mix {p q : Int} (hp : 0 < p) (hq : 0 < q) : ∀ {t u : List Int} {L : List At}, t.length = u.length → (∀ y ∈ t, 0 ≤ y) → (∀ y ∈ u, 0 ≤ y) → anyS (mixL p t q u) L = (anyS t L || anyS u L)
  | [], [], L, _, _, _ => by simp [-Bool.exists_bool, -Int.not_le, -Int.not_lt, -getElem?_pos, -List.getD_eq_getElem?_getD, mixL, anyS]
  | x :: t, y :: u, [], _, _, _ => by simp [-Bool.exists_bool, -Int.not_le, -Int.not_lt, -getElem?_pos, -List.getD_eq_getElem?_getD, mixL, anyS]
  | x :: t, y :: u, a :: L, h, h1, h2 => by
    have := anyS_mix hp hq (t := t) (u := u) (L := L) (by simpa [-Bool.exists_bool, -Int.not_le, -Int.not_lt, -getElem?_pos, -List.getD_eq_getElem?_getD] using h) (fun y hy => h1 y (by simp [-Bool.exists_bool, -Int.not_le, -Int.not_lt, -getElem?_pos, -List.getD_eq_getElem?_getD, hy])) (fun y hy => h2 y (by simp [-Bool.exists_bool, -Int.not_le, -Int.not_lt, -getElem?_pos, -List.getD_eq_getElem?_getD, hy]))
    have e : mixL p (x :: t) q (y :: u) = (p * x + q * y) :: mixL p t q u := rfl
    have hx := h1 x (by simp [-Bool.exists_bool, -Int.not_le, -Int.not_lt, -getElem?_pos, -List.getD_eq_getElem?_getD])
    have hy := h2 y (by simp [-Bool.exists_bool, -Int.not_le, -Int.not_lt, -getElem?_pos, -List.getD_eq_getElem?_getD])
    have hd : decide (0 < p * x + q * y) = (decide (0 < x) || decide (0 < y)) := by
      rw [← Bool.decide_or]
      refine decide_eq_decide.2 ⟨fun h => ?_, fun h => ?_⟩
      · by_cases h0 : 0 < x
        · exact .inl h0
        · obtain rfl : x = 0 := by omega
          by_cases h3 : 0 < y
          · exact .inr h3
          · obtain rfl : y = 0 := by omega
            simp [-Bool.exists_bool, -Int.not_le, -Int.not_lt, -getElem?_pos, -List.getD_eq_getElem?_getD] at h
      · have a1 : 0 ≤ p * x := Int.mul_nonneg (by omega) hx
        have a2 : 0 ≤ q * y := Int.mul_nonneg (by omega) hy
        rcases h with h | h
        · have := Int.mul_pos hp h; omega
        · have := Int.mul_pos hq h; omega
    rw [e, anyS, anyS, anyS, this, hd]
    cases decide (0 < x) <;> cases decide (0 < y) <;> cases a.2.2 <;> cases anyS t L <;> rfl
theorem anyS_dv {g : Int} (hg : 0 < g) : ∀ {t : List Int} {L : List At}, (∀ y ∈ t, 0 ≤ y) → (∀ y ∈ t, g ∣ y) → anyS (dv g t) L = anyS t L
  | [], L, _, _ => by simp [-Bool.exists_bool, -Int.not_le, -Int.not_lt, -getElem?_pos, -List.getD_eq_getElem?_getD, dv]
  | x :: t, [], _, _ => by simp [-Bool.exists_bool, -Int.not_le, -Int.not_lt, -getElem?_pos, -List.getD_eq_getElem?_getD, dv, anyS]
  | x :: t, a :: L, h1, h => by
    have := anyS_dv hg (t := t) (L := L) (fun y hy => h1 y (by simp [-Bool.exists_bool, -Int.not_le, -Int.not_lt, -getElem?_pos, -List.getD_eq_getElem?_getD, hy])) (fun y hy => h y (by simp [-Bool.exists_bool, -Int.not_le, -Int.not_lt, -getElem?_pos, -List.getD_eq_getElem?_getD, hy]))
    have e : dv g (x :: t) = x.tdiv g :: dv g t := rfl
    have hx := h1 x (by simp [-Bool.exists_bool, -Int.not_le, -Int.not_lt, -getElem?_pos, -List.getD_eq_getElem?_getD])
    obtain ⟨c, rfl⟩ := h x (by simp [-Bool.exists_bool, -Int.not_le, -Int.not_lt, -getElem?_pos, -List.getD_eq_getElem?_getD])
    have hd : decide (0 < (g * c).tdiv g) = decide (0 < g * c) := by
      rw [Int.mul_tdiv_cancel_left c (by omega)]
      refine decide_eq_decide.2 ⟨fun h => Int.mul_pos hg h, fun h => ?_⟩
      by_cases hc : 0 < c
      · exact hc
      · have := Int.mul_nonneg (a := g) (b := -c) (by omega) (by omega)
        rw [Int.mul_neg] at this
        omega
    rw [e, anyS, anyS, this, hd]
theorem totA_zero (n : Nat) (f : At → Int) : ∀ {L : List At}, totA (List.replicate n 0) L f = 0 := by
  induction n with
  | zero => intro L; simp [-Bool.exists_bool, -Int.not_le, -Int.not_lt, -getElem?_pos, -List.getD_eq_getElem?_getD, totA]
  | succ n ih =>
    intro L
    cases L with
    | nil => simp [-Bool.exists_bool, -Int.not_le, -Int.not_lt, -getElem?_pos, -List.getD_eq_getElem?_getD, List.replicate_succ, totA]
    | cons a L => rw [List.replicate_succ, totA, ih]; simp [-Bool.exists_bool, -Int.not_le, -Int.not_lt, -getElem?_pos, -List.getD_eq_getElem?_getD]
theorem anyS_zero (n : Nat) : ∀ {L : List At}, anyS (List.replicate n 0) L = false := by
  induction n with
  | zero => intro L; simp [-Bool.exists_bool, -Int.not_le, -Int.not_lt, -getElem?_pos, -List.getD_eq_getElem?_getD, anyS]
  | succ n ih =>
    intro L
    cases L with
    | nil => simp [-Bool.exists_bool, -Int.not_le, -Int.not_lt, -getElem?_pos, -List.getD_eq_getElem?_getD, List.replicate_succ, anyS]
    | cons a L => rw [List.replicate_succ, anyS, ih]; simp [-Bool.exists_bool, -Int.not_le, -Int.not_lt, -getElem?_pos, -List.getD_eq_getElem?_getD]
theorem unit_succ (n i : Nat) : unit (n + 1) (i + 1) = 0 :: unit n i := by simp [-Bool.exists_bool, -Int.not_le, -Int.not_lt, -getElem?_pos, -List.getD_eq_getElem?_getD, unit, List.replicate_succ]
theorem unit_zero (n : Nat) : unit (n + 1) 0 = 1 :: List.replicate n 0 := by simp [-Bool.exists_bool, -Int.not_le, -Int.not_lt, -getElem?_pos, -List.getD_eq_getElem?_getD, unit, List.replicate_succ]
theorem totA_unit (f : At → Int) : ∀ {L : List At} {i : Nat}, i < L.length → totA (unit L.length i) L f = f (nth L i)
  | [], i, h => by simp [-Bool.exists_bool, -Int.not_le, -Int.not_lt, -getElem?_pos, -List.getD_eq_getElem?_getD] at h
  | a :: L, 0, h => by
    rw [List.length_cons, unit_zero, totA, totA_zero, Int.one_mul, Int.add_zero]
    rfl
  | a :: L, i + 1, h => by
    have := totA_unit f (L := L) (i := i) (by simpa [-Bool.exists_bool, -Int.not_le, -Int.not_lt, -getElem?_pos, -List.getD_eq_getElem?_getD] using h)
    rw [List.length_cons, unit_succ, totA, this, Int.zero_mul, Int.zero_add]
    rfl
theorem anyS_unit : ∀ {L : List At} {i : Nat}, i < L.length → anyS (unit L.length i) L = (nth L i).2.2
  | [], i, h => by simp [-Bool.exists_bool, -Int.not_le, -Int.not_lt, -getElem?_pos, -List.getD_eq_getElem?_getD] at h
  | a :: L, 0, h => by
    rw [List.length_cons, unit_zero, anyS, anyS_zero, show nth (a :: L) 0 = a from rfl]
    simp [-Bool.exists_bool, -Int.not_le, -Int.not_lt, -getElem?_pos, -List.getD_eq_getElem?_getD]
  | a :: L, i + 1, h => by
    have := anyS_unit (L := L) (i := i) (by simpa [-Bool.exists_bool, -Int.not_le, -Int.not_lt, -getElem?_pos, -List.getD_eq_getElem?_getD] using h)
    rw [List.length_cons, unit_succ, anyS, this, show nth (a :: L) (i + 1) = nth L i from rfl]
    simp [-Bool.exists_bool, -Int.not_le, -Int.not_lt, -getElem?_pos, -List.getD_eq_getElem?_getD]
structure Rep (L : List At) (D m : Nat) (x : Cb) : Prop where
  ok : okB D L.length x
  pos : ∀ y ∈ x.t, 0 ≤ y
  s : ∀ j, j < D → nth x.s j = totA x.t L (fun a => nth a.1 j)
  k : x.k = totA x.t L (fun a => a.2.1)
  st : x.st = anyS x.t L
  z : ∀ j, m ≤ j → j < D → nth x.s j = 0
theorem mem_mixL {p q : Int} {t u : List Int} (hp : 0 ≤ p) (hq : 0 ≤ q) : ∀ {t u : List Int}, (∀ y ∈ t, 0 ≤ y) → (∀ y ∈ u, 0 ≤ y) → ∀ y ∈ mixL p t q u, 0 ≤ y
  | [], u, _, _, y, h => by simp [-Bool.exists_bool, -Int.not_le, -Int.not_lt, -getElem?_pos, -List.getD_eq_getElem?_getD, mixL] at h
  | x :: t, [], _, _, y, h => by simp [-Bool.exists_bool, -Int.not_le, -Int.not_lt, -getElem?_pos, -List.getD_eq_getElem?_getD, mixL] at h
  | x :: t, z :: u, h1, h2, y, h => by
    have e : mixL p (x :: t) q (z :: u) = (p * x + q * z) :: mixL p t q u := rfl
    rw [e] at h
    rcases List.mem_cons.1 h with rfl | h
    · have a1 := Int.mul_nonneg hp (h1 x (by simp [-Bool.exists_bool, -Int.not_le, -Int.not_lt, -getElem?_pos, -List.getD_eq_getElem?_getD]))
      have a2 := Int.mul_nonneg hq (h2 z (by simp [-Bool.exists_bool, -Int.not_le, -Int.not_lt, -getElem?_pos, -List.getD_eq_getElem?_getD]))
      omega
    · exact mem_mixL (t := t) (u := u) hp hq (fun y hy => h1 y (by simp [-Bool.exists_bool, -Int.not_le, -Int.not_lt, -getElem?_pos, -List.getD_eq_getElem?_getD, hy])) (fun y hy => h2 y (by simp [-Bool.exists_bool, -Int.not_le, -Int.not_lt, -getElem?_pos, -List.getD_eq_getElem?_getD, hy])) y h
theorem Rep.join {L : List At} {D m : Nat} {a b : Cb} {p q : Int} (ha : Rep L D (m + 1) a) (hb : Rep L D (m + 1) b) (hp : 0 < p) (hq : 0 < q) (h0 : m < D → p * nth a.s m + q * nth b.s m = 0) (h : (joinC a p b q).2 = true) : Rep L D m (joinC a p b q).1 := by
  have hsl : a.s.length = b.s.length := by rw [ha.ok.s.1, hb.ok.s.1]
  have htl : a.t.length = b.t.length := by rw [ha.ok.t.1, hb.ok.t.1]
  have hg := div1_pos (Nat.gcd (joinK a p b q).natAbs (gcdL (joinS a p b q ++ joinT a p b q)))
  change 0 < joinG a p b q at hg
  have hdvd : ∀ y ∈ joinS a p b q ++ joinT a p b q, joinG a p b q ∣ y := fun y hy => by
    unfold joinG jg div1
    split
    · exact Int.one_dvd y
    · exact Int.ofNat_dvd_left.2 (Nat.dvd_trans (Nat.gcd_dvd_right _ _) (gcdL_dvd _ y hy))
  have hdK : joinG a p b q ∣ joinK a p b q := by
    unfold joinG jg div1
    split
    · exact Int.one_dvd _
    · exact Int.ofNat_dvd_left.2 (Nat.gcd_dvd_left _ _)
  have hdT : ∀ y ∈ joinT a p b q, joinG a p b q ∣ y := fun y hy => hdvd y (by simp [-Bool.exists_bool, -Int.not_le, -Int.not_lt, -getElem?_pos, -List.getD_eq_getElem?_getD, hy])
  have hok := joinC_ok ha.ok hb.ok h
  have hTp : ∀ y ∈ joinT a p b q, 0 ≤ y := fun y hy => mem_mixL (t := []) (u := []) (by omega) (by omega) ha.pos hb.pos y hy
  have hnS : ∀ j, j < D → nth (dv (joinG a p b q) (joinS a p b q)) j = (p * nth a.s j + q * nth b.s j).tdiv (joinG a p b q) := fun j hj => by
    have hj1 : j < (joinS a p b q).length := by rw [joinS, mixL_len hsl, ha.ok.s.1]; exact hj
    have e : nth (joinS a p b q) j = p * nth a.s j + q * nth b.s j := mixL_nth hsl (by rw [ha.ok.s.1]; exact hj)
    rw [← e, nth_eq (by simp [-Bool.exists_bool, -Int.not_le, -Int.not_lt, -getElem?_pos, -List.getD_eq_getElem?_getD, dv]; exact hj1), nth_eq hj1]
    simp [-Bool.exists_bool, -Int.not_le, -Int.not_lt, -getElem?_pos, -List.getD_eq_getElem?_getD, dv]
  have hT : ∀ f, totA (dv (joinG a p b q) (joinT a p b q)) L f = (p * totA a.t L f + q * totA b.t L f).tdiv (joinG a p b q) := fun f => by
    rw [← totA_mix p q f htl]
    show _ = (totA (joinT a p b q) L f).tdiv _
    rw [← totA_dv f hdT, Int.mul_tdiv_cancel_left _ (by omega)]
  refine ⟨hok, ?_, ?_, ?_, ?_, ?_⟩
  · intro y hy
    obtain ⟨w, hw, rfl⟩ := List.mem_map.1 hy
    exact Int.tdiv_nonneg (hTp w hw) (by omega)
  · intro j hj
    show nth (dv (joinG a p b q) (joinS a p b q)) j = totA (dv (joinG a p b q) (joinT a p b q)) L _
    rw [hnS j hj, hT, ← ha.s j hj, ← hb.s j hj]
  · show (joinK a p b q).tdiv _ = totA (dv (joinG a p b q) (joinT a p b q)) L _
    rw [hT, ← ha.k, ← hb.k]
    rfl
  · show (a.st || b.st) = anyS (dv (joinG a p b q) (joinT a p b q)) L
    rw [anyS_dv hg hTp hdT, joinT, anyS_mix hp hq htl ha.pos hb.pos, ha.st, hb.st]
  · intro j hm hj
    show nth (dv (joinG a p b q) (joinS a p b q)) j = 0
    rw [hnS j hj]
    by_cases hjm : j = m
    · subst hjm; rw [h0 hj]; simp [-Bool.exists_bool, -Int.not_le, -Int.not_lt, -getElem?_pos, -List.getD_eq_getElem?_getD]
    · rw [ha.z j (by omega) hj, hb.z j (by omega) hj]; simp [-Bool.exists_bool, -Int.not_le, -Int.not_lt, -getElem?_pos, -List.getD_eq_getElem?_getD]
theorem jIn_rep {L : List At} {D v : Nat} {a : Cb} (ha : Rep L D (v + 1) a) (hav : 0 < nth a.s v) : ∀ {bs acc z : List Cb}, (∀ b ∈ bs, Rep L D (v + 1) b) → (∀ b ∈ acc, Rep L D v b) → jIn v a bs acc = some z → ∀ b ∈ z, Rep L D v b
  | [], acc, z, _, h, e => by obtain rfl := Option.some.inj e; exact h
  | b :: bs, acc, z, hb, h, e => by
    unfold jIn at e
    have hb' : ∀ x ∈ bs, Rep L D (v + 1) x := fun x hx => hb x (by simp [-Bool.exists_bool, -Int.not_le, -Int.not_lt, -getElem?_pos, -List.getD_eq_getElem?_getD, hx])
    split at e
    · exact jIn_rep ha hav hb' h e
    · split at e
      · cases e
      · rename_i hn hno
        have h1 : (joinC a (-(nth b.s v)) b (nth a.s v)).2 = true := by
          cases hq : (joinC a (-(nth b.s v)) b (nth a.s v)).2 with
          | true => rfl
          | false => exact absurd (.inl hq) hno
        refine jIn_rep ha hav hb' (fun x hx => ?_) e
        rcases List.mem_append.1 hx with hx | hx
        · exact h x hx
        · rw [List.mem_singleton.1 hx]
          refine Rep.join ha (hb b (by simp [-Bool.exists_bool, -Int.not_le, -Int.not_lt, -getElem?_pos, -List.getD_eq_getElem?_getD])) (by omega) hav (fun _ => ?_) h1
          rw [Int.neg_mul, Int.mul_comm]; omega
theorem jOut_rep {L : List At} {D v : Nat} {l : List Cb} (hl : ∀ a ∈ l, Rep L D (v + 1) a) : ∀ {T acc z : List Cb}, (∀ b ∈ T, Rep L D (v + 1) b) → (∀ b ∈ acc, Rep L D v b) → jOut v l T acc = some z → ∀ b ∈ z, Rep L D v b
  | [], acc, z, _, h, e => by obtain rfl := Option.some.inj e; exact h
  | a :: T, acc, z, hb, h, e => by
    unfold jOut at e
    have hb' : ∀ x ∈ T, Rep L D (v + 1) x := fun x hx => hb x (by simp [-Bool.exists_bool, -Int.not_le, -Int.not_lt, -getElem?_pos, -List.getD_eq_getElem?_getD, hx])
    split at e
    · exact jOut_rep hl hb' h e
    · rename_i hn
      obtain ⟨y, e1, e2⟩ := Option.bind_eq_some_iff.1 e
      exact jOut_rep hl hb' (jIn_rep (hb a (by simp [-Bool.exists_bool, -Int.not_le, -Int.not_lt, -getElem?_pos, -List.getD_eq_getElem?_getD])) (by omega) hl h e1) e2
theorem jdrop_rep {L : List At} {D v : Nat} {l z : List Cb} (hl : ∀ a ∈ l, Rep L D (v + 1) a) (e : jdrop v l = some z) : ∀ b ∈ z, Rep L D v b :=
  jOut_rep hl hl (fun b hb => by
    obtain ⟨h1, h2⟩ := List.mem_filter.1 hb
    have hr := hl b h1
    refine ⟨hr.ok, hr.pos, hr.s, hr.k, hr.st, fun j hj hD => ?_⟩
    by_cases hjv : j = v
    · subst hjv; simpa [-Bool.exists_bool, -Int.not_le, -Int.not_lt, -getElem?_pos, -List.getD_eq_getElem?_getD, freeS] using h2
    · exact hr.z j (by omega) hD) e
theorem jall_rep {L : List At} {D : Nat} : ∀ {m : Nat} {l z : List Cb}, (∀ a ∈ l, Rep L D m a) → jall m l = some z → ∀ b ∈ z, Rep L D 0 b
  | 0, l, z, h, e => by obtain rfl := Option.some.inj e; exact h
  | m + 1, l, z, h, e => by
    rw [jall] at e
    obtain ⟨y, e1, e2⟩ := Option.bind_eq_some_iff.1 e
    exact jall_rep (jdrop_rep h e1) e2
theorem iniC_rep {L : List At} {D : Nat} (hL : allOk D L) : ∀ a ∈ iniC L L.length, Rep L D D a := fun a ha => by
  obtain ⟨i, hi, rfl⟩ := List.mem_map.1 ha
  have hi := List.mem_range.1 hi
  refine ⟨uniC_ok hL hi, ?_, ?_, ?_, ?_, fun j h1 h2 => by omega⟩
  · intro y hy
    unfold uniC unit at hy
    rcases List.mem_or_eq_of_mem_set hy with h | h
    · rw [(List.mem_replicate.1 h).2]; exact Int.le_refl 0
    · omega
  · intro j hj
    show nth (nth L i).1 j = totA (unit L.length i) L _
    rw [totA_unit _ hi]
  · show (nth L i).2.1 = totA (unit L.length i) L _
    rw [totA_unit _ hi]
  · show (nth L i).2.2 = anyS (unit L.length i) L
    rw [anyS_unit hi]
theorem refGo_eq : ∀ {ms : List Int} {L : List At} {S : List Int} {k : Int} {st : Bool}, (∀ n ∈ ms, 0 ≤ n ∧ n ≤ 400000000) →
    refGo S k st ms L = ((decide (∀ j, j < S.length → nth S j + totA ms L (fun a => nth a.1 j) = 0)) && (decide (0 < k + totA ms L (fun a => a.2.1)) || decide (k + totA ms L (fun a => a.2.1) = 0) && (st || anyS ms L)))
  | [], L, S, k, st, _ => by
    have : refGo S k st [] L = refEnd S k st := by cases L <;> rfl
    rw [this, refEnd]
    simp only [totA, anyS, Int.add_zero, Bool.or_false]
    congr 1
    rw [Bool.eq_iff_iff, List.all_eq_true, decide_eq_true_eq]
    constructor
    · intro h j hj
      have := h _ (nth_mem hj)
      simpa [-Bool.exists_bool, -Int.not_le, -Int.not_lt, -getElem?_pos, -List.getD_eq_getElem?_getD] using this
    · intro h x hx
      obtain ⟨j, hj, rfl⟩ := List.getElem_of_mem hx
      have := h j hj
      rw [nth_eq hj] at this
      simpa [-Bool.exists_bool, -Int.not_le, -Int.not_lt, -getElem?_pos, -List.getD_eq_getElem?_getD] using this
  | n :: ms, [], S, k, st, _ => by
    rw [show refGo S k st (n :: ms) [] = refEnd S k st from rfl, refEnd]
    simp only [totA, anyS, Int.add_zero, Bool.or_false]
    congr 1
    rw [Bool.eq_iff_iff, List.all_eq_true, decide_eq_true_eq]
    constructor
    · intro h j hj
      have := h _ (nth_mem hj)
      simpa [-Bool.exists_bool, -Int.not_le, -Int.not_lt, -getElem?_pos, -List.getD_eq_getElem?_getD] using this
    · intro h x hx
      obtain ⟨j, hj, rfl⟩ := List.getElem_of_mem hx
      have := h j hj
      rw [nth_eq hj] at this
      simpa [-Bool.exists_bool, -Int.not_le, -Int.not_lt, -getElem?_pos, -List.getD_eq_getElem?_getD] using this
  | n :: ms, a :: L, S, k, st, hm => by
    have hn := hm n (by simp [-Bool.exists_bool, -Int.not_le, -Int.not_lt, -getElem?_pos, -List.getD_eq_getElem?_getD])
    rw [refGo, if_pos (by simp [-Bool.exists_bool, -Int.not_le, -Int.not_lt, -getElem?_pos, -List.getD_eq_getElem?_getD, hn.1, hn.2]), refGo_eq (fun x hx => hm x (by simp [-Bool.exists_bool, -Int.not_le, -Int.not_lt, -getElem?_pos, -List.getD_eq_getElem?_getD, hx]))]
    rw [addMul_len]
    have e1 : (∀ j, j < S.length → nth (addMul n a.1 S) j + totA ms L (fun a => nth a.1 j) = 0) ↔ (∀ j, j < S.length → nth S j + totA (n :: ms) (a :: L) (fun a => nth a.1 j) = 0) := by
      constructor
      · intro h j hj
        have := h j hj
        rw [addMul_nth n a.1 S j hj] at this
        rw [totA]; omega
      · intro h j hj
        have := h j hj
        rw [totA] at this
        rw [addMul_nth n a.1 S j hj]; omega
    refine congr (congrArg and (decide_eq_decide.2 e1)) ?_
    simp only [totA, anyS, Int.add_assoc, Bool.or_assoc]
    rfl
theorem nth_zero (n j : Nat) (h : j < n) : nth (List.replicate n (0 : Int)) j = 0 := by
  rw [nth_eq (by simpa [-Bool.exists_bool, -Int.not_le, -Int.not_lt, -getElem?_pos, -List.getD_eq_getElem?_getD] using h)]; simp [-Bool.exists_bool, -Int.not_le, -Int.not_lt, -getElem?_pos, -List.getD_eq_getElem?_getD]
theorem isRef_hit {d : Int} {L : List At} (hc : isCe d L = true) {x : Cb} (h : Rep L d.toNat 0 x) : isRef d L x.t = hitS x := by
  have hb : ∀ n ∈ x.t, 0 ≤ n ∧ n ≤ 400000000 := fun n hn => ⟨h.pos n hn, (isNum_iff.1 (h.ok.t.2 n hn)).2⟩
  unfold isRef
  rw [hc, h.ok.t.1]
  simp only [decide_true, Bool.and_self, if_true]
  rw [refGo_eq hb]
  have hz : ∀ j, j < (List.replicate d.toNat (0 : Int)).length → nth (List.replicate d.toNat 0) j + totA x.t L (fun a => nth a.1 j) = 0 := fun j hj => by
    have hj' : j < d.toNat := by simpa [-Bool.exists_bool, -Int.not_le, -Int.not_lt, -getElem?_pos, -List.getD_eq_getElem?_getD] using hj
    rw [nth_zero _ _ hj', ← h.s j hj', h.z j (by omega) hj']; rfl
  rw [decide_eq_true hz, ← h.k, ← h.st, hitS]
  simp [-Bool.exists_bool, -Int.not_le, -Int.not_lt, -getElem?_pos, -List.getD_eq_getElem?_getD]
theorem find_eq {d : Int} {L : List At} (hc : isCe d L = true) : ∀ {l : List Cb}, (∀ x ∈ l, Rep L d.toNat 0 x) → findF d L (l.map fl) = findS l
  | [], _ => rfl
  | x :: l, h => by
    have hx := h x (by simp [-Bool.exists_bool, -Int.not_le, -Int.not_lt, -getElem?_pos, -List.getD_eq_getElem?_getD])
    have e : (fl x).drop (d.toNat + 1) = x.t := by
      unfold fl
      have hl := hx.ok.s.1
      rw [List.drop_append, List.drop_of_length_le (by omega), hl]
      simp [-Bool.exists_bool, -Int.not_le, -Int.not_lt, -getElem?_pos, -List.getD_eq_getElem?_getD]
    rw [List.map_cons, findF, findS, e, isRef_hit hc hx, find_eq hc (fun y hy => h y (by simp [-Bool.exists_bool, -Int.not_le, -Int.not_lt, -getElem?_pos, -List.getD_eq_getElem?_getD, hy]))]
theorem refS_eq (d : Int) (L : List At) : refS d L = refF d L := by
  unfold refS refF
  by_cases hc : isCe d L = true
  · rw [if_pos hc, if_pos hc]
    have h16 := isCe_l hc
    have hd := isCe_d hc
    have hok := isCe_a hc
    obtain ⟨D, rfl⟩ : ∃ n : Nat, d = n := ⟨d.toNat, by omega⟩
    have hlok : okBs D L.length (iniC L L.length) := by
      refine ⟨by simp [-Bool.exists_bool, -Int.not_le, -Int.not_lt, -getElem?_pos, -List.getD_eq_getElem?_getD, iniC]; omega, fun x hx => ?_⟩
      obtain ⟨j, hj, rfl⟩ := List.mem_map.1 hx
      exact uniC_ok hok (List.mem_range.1 hj)
    have e0 : iniFs L L.length = (iniC L L.length).map fl := by
      simp [-Bool.exists_bool, -Int.not_le, -Int.not_lt, -getElem?_pos, -List.getD_eq_getElem?_getD, iniFs, iniC, fl, iniF, uniC]
    rw [Int.toNat_natCast, e0, jall_fl hlok (Nat.le_refl _)]
    cases hz : jall D (iniC L L.length) with
    | none => rfl
    | some z =>
      have hr := jall_rep (iniC_rep hok) hz
      exact (find_eq hc (l := z) (by rw [Int.toNat_natCast]; exact hr)).symm
  · rw [if_neg hc, if_neg hc]
end Go.Proofs.Ytohoibekddhneaa.ZL
