/- Texts of the abs road (plain values, what code does to them, and the contracts of the functions that the law reaches). No condition. -/
import Derived.Test.YtohoibekddhneaaG7FnExactRefuteCell
import Derived.Shelf.SlSortCmp.WholeK
import Derived.Shelf.SlSortCmp.NoneTotal
import Derived.Test.YtohoibekddhneaaProg
namespace Go.Proofs
open Go.Shelf
end Go.Proofs
namespace Go.Proofs.Ytohoibekddhneaa.ZL
open Go Go.Proofs.Ytohoibekddhneaa.Abs Go.Proofs.Ytohoibekddhneaa.Abs.Pl Go.RowKit Go.Proofs
set_option linter.unusedVariables false
set_option linter.unusedSimpArgs false
def isIns {α : Type} (c : α → α → Int) (a : α) : List α → List α
  | [] => [a]
  | b :: l => if c a b ≤ 0 then a :: b :: l else b :: isIns c a l
def isort {α : Type} (c : α → α → Int) : List α → List α
  | [] => []
  | a :: l => isIns c a (isort c l)
theorem isIns_perm {α : Type} (c : α → α → Int) (a : α) : ∀ l, (isIns c a l).Perm (a :: l)
  | [] => List.Perm.refl _
  | b :: l => by
    unfold isIns
    split
    · exact List.Perm.refl _
    · exact ((isIns_perm c a l).cons b).trans (List.Perm.swap a b l)
theorem isort_perm {α : Type} (c : α → α → Int) : ∀ l, (isort c l).Perm l
  | [] => List.Perm.refl _
  | a :: l => (isIns_perm c a _).trans ((isort_perm c l).cons a)
theorem isIns_sorted {α : Type} (c : α → α → Int) (a : α) : ∀ l : List α, (∀ x ∈ a :: l, ∀ y ∈ a :: l, c y x = - c x y) → (∀ x ∈ a :: l, ∀ y ∈ a :: l, ∀ z ∈ a :: l, c x y ≤ 0 → c y z ≤ 0 → c x z ≤ 0) → l.Pairwise (fun x y => c x y ≤ 0) → (isIns c a l).Pairwise (fun x y => c x y ≤ 0)
  | [], _, _, _ => by simp [isIns]
  | b :: l, hf, ht, h => by
    obtain ⟨h1, h2⟩ := List.pairwise_cons.1 h
    unfold isIns
    split
    · rename_i hab
      refine List.pairwise_cons.2 ⟨fun x hx => ?_, h⟩
      rcases List.mem_cons.1 hx with e | hx'
      · rw [e]; exact hab
      · exact ht a (by simp) b (by simp) x (by simp [hx']) hab (h1 x hx')
    · rename_i hab
      refine List.pairwise_cons.2 ⟨fun x hx => ?_, isIns_sorted c a l (fun x hx y hy => hf x (by simp at hx ⊢; rcases hx with e | e <;> simp [e]) y (by simp at hy ⊢; rcases hy with e | e <;> simp [e])) (fun x hx y hy z hz => ht x (by simp at hx ⊢; rcases hx with e | e <;> simp [e]) y (by simp at hy ⊢; rcases hy with e | e <;> simp [e]) z (by simp at hz ⊢; rcases hz with e | e <;> simp [e])) h2⟩
      rcases List.mem_cons.1 ((isIns_perm c a l).mem_iff.1 hx) with e | hx'
      · rw [e, hf a (by simp) b (by simp)]; omega
      · exact h1 x hx'
theorem isort_sorted {α : Type} (c : α → α → Int) : ∀ l : List α, (∀ x ∈ l, ∀ y ∈ l, c y x = - c x y) → (∀ x ∈ l, ∀ y ∈ l, ∀ z ∈ l, c x y ≤ 0 → c y z ≤ 0 → c x z ≤ 0) → (isort c l).Pairwise (fun x y => c x y ≤ 0)
  | [], _, _ => by simp [isort]
  | a :: l, hf, ht => by
    have hm : ∀ x, x ∈ a :: isort c l → x ∈ a :: l := fun x hx => by
      rcases List.mem_cons.1 hx with e | hx'
      · simp [e]
      · simp [(isort_perm c l).mem_iff.1 hx']
    exact isIns_sorted c a (isort c l) (fun x hx y hy => hf x (hm x hx) y (hm y hy)) (fun x hx y hy z hz => ht x (hm x hx) y (hm y hy) z (hm z hz))
      (isort_sorted c l (fun x hx y hy => hf x (by simp [hx]) y (by simp [hy])) (fun x hx y hy z hz => ht x (by simp [hx]) y (by simp [hy]) z (by simp [hz])))
theorem isIns_congr {α : Type} (c d : α → α → Int) (a : α) : ∀ l : List α, (∀ x ∈ l, c a x = d a x) → isIns c a l = isIns d a l
  | [], _ => rfl
  | b :: l, h => by
    unfold isIns
    rw [h b (by simp), isIns_congr c d a l (fun x hx => h x (by simp [hx]))]
theorem isort_congr {α : Type} (c d : α → α → Int) : ∀ l : List α, (∀ x ∈ l, ∀ y ∈ l, c x y = d x y) → isort c l = isort d l
  | [], _ => rfl
  | a :: l, h => by
    unfold isort
    rw [isort_congr c d l (fun x hx y hy => h x (by simp [hx]) y (by simp [hy]))]
    exact isIns_congr c d a _ (fun x hx => h a (by simp) x (by simp [(isort_perm d l).mem_iff.1 hx]))
theorem sorted_same {α : Type} (c : α → α → Int) : ∀ R S : List α, (∀ x ∈ R, ∀ y ∈ R, c y x = - c x y) → (∀ x ∈ R, ∀ y ∈ R, c x y = 0 → x = y) → R.Perm S → R.Pairwise (fun x y => c x y ≤ 0) → S.Pairwise (fun x y => c x y ≤ 0) → R = S
  | [], S, _, _, hp, _, _ => (List.Perm.nil_eq hp)
  | a :: R, [], _, _, hp, _, _ => by have := hp.length_eq; simp at this
  | a :: R, b :: S, hf, he, hp, h1, h2 => by
    obtain ⟨a1, a2⟩ := List.pairwise_cons.1 h1
    obtain ⟨b1, b2⟩ := List.pairwise_cons.1 h2
    have hb : b ∈ a :: R := hp.mem_iff.2 (by simp)
    have e : a = b := by
      rcases List.mem_cons.1 hb with e | hb'
      · exact e.symm
      · rcases List.mem_cons.1 (hp.mem_iff.1 (List.mem_cons_self : a ∈ a :: R)) with e | ha'
        · exact e
        · have k1 := a1 b hb'
          have k2 := b1 a ha'
          have k3 := hf a (by simp) b hb
          exact he a (by simp) b hb (by omega)
    subst e
    rw [sorted_same c R S (fun x hx y hy => hf x (by simp [hx]) y (by simp [hy])) (fun x hx y hy => he x (by simp [hx]) y (by simp [hy])) (List.Perm.cons_inv hp) a2 b2]
theorem sortW_heap {α : Type} [Inhabited α] (enc : α → List Value) (sz : Nat) (w : World) (g off m : Nat) (d : Array α) (os : Array Obj) (k : Nat) (hk : k < w.heap.size) (hne : k ≠ g) : (Go.Proofs.sortWorldK enc sz w g off m d os).heap[k]? = w.heap[k]? := by
  unfold Go.Proofs.sortWorldK Go.Sort.putRowK Go.Sort.putRow Go.Sort.mapBlock Go.Sort.ahead Go.Sort.grow
  simp only []
  rw [Array.getElem?_append_left (by simpa using hk), Array.getElem?_modify, if_neg (fun e => hne e.symm)]
theorem sortW_row {α : Type} [Inhabited α] (enc : α → List Value) (sz : Nat) (w : World) (g m : Nat) (d : Array α) (os : Array Obj) (cur : Array Value) (e : TypeId) (h : w.heap[g]? = some (.cells cur e (0, 0))) :
    (Go.Proofs.sortWorldK enc sz w g 0 m d os).heap[g]? = some (.cells (Go.Sort.putCells id 0 (Go.Sort.flatK enc sz d) cur) e (0, 0)) := by
  have hk : g < w.heap.size := (Array.getElem?_eq_some_iff.1 h).1
  unfold Go.Proofs.sortWorldK Go.Sort.putRowK Go.Sort.putRow Go.Sort.mapBlock Go.Sort.ahead Go.Sort.grow
  simp only []
  rw [Array.getElem?_append_left (by simpa using hk), Array.getElem?_modify, if_pos rfl, h]
  rfl
theorem grow_of_chg {w W : World} (h : Chg (fun _ => False) w W) : ∃ q os, W = Go.Sort.grow (w.drewN q) os := by
  obtain ⟨n, hn⟩ : ∃ n, W.drawn = w.drawn + n := ⟨W.drawn - w.drawn, by have := h.drawn; omega⟩
  refine ⟨n, W.heap.extract w.heap.size W.heap.size, ?_⟩
  have h1 := h.os
  have h2 := h.tape
  have h3 := h.output
  have hh : W.heap = w.heap ++ W.heap.extract w.heap.size W.heap.size := by
    apply Array.ext_getElem?
    intro i
    by_cases hi : i < w.heap.size
    · rw [Array.getElem?_append_left hi]; exact h.block i (fun h => h) hi
    · rw [Array.getElem?_append_right (by omega), Array.getElem?_extract]
      have := h.size
      by_cases hi2 : i < W.heap.size
      · rw [if_pos (by omega)]; congr 1; omega
      · rw [if_neg (by omega), Array.getElem?_eq_none (by omega)]
  cases W
  cases w
  simp only [Go.Sort.grow, World.drewN] at *
  subst h1 h2 h3 hn
  rw [← hh]
theorem sortW_drawn {α : Type} [Inhabited α] (enc : α → List Value) (sz : Nat) (w : World) (g off m : Nat) (d : Array α) (os : Array Obj) : w.drawn ≤ (Go.Proofs.sortWorldK enc sz w g off m d os).drawn := by
  unfold Go.Proofs.sortWorldK Go.Sort.putRowK Go.Sort.putRow Go.Sort.mapBlock Go.Sort.ahead Go.Sort.grow
  exact Nat.le_add_right _ _
theorem blkC {w : World} {g : Nat} {t : TypeId} {cs : Array Value} (h : w.heap[g]? = some (.cells cs t (0, 0))) (i : Nat) : w.cell? ⟨g, i, none⟩ = cs[i]? := by
  cases hq : cs[i]? with
  | none => simp only [World.cell?, h]; simp [hq]
  | some v => have := rangeAt_row h i v (by simpa using hq); simpa using this
theorem blkF {w : World} {g : Nat} {t : TypeId} {cs : Array Value} (h : w.heap[g]? = some (.cells cs t (0, 0))) (i : Nat) : w.frozen? ⟨g, i, none⟩ = false := by simp [World.frozen?, h]
theorem nth_succ {α : Type} [Inhabited α] (a : α) (l : List α) (i : Nat) : nth (a :: l) (i + 1) = nth l i := rfl
theorem rA_cells {M : Key → Option Value} {F : Nat → Prop} {w : World} {f : Nat → Key} : ∀ {L : List At} {j : Nat} {xs : List Value}, DenVs M F w (rA f j L) xs → ∀ i, i < L.length → ∃ u, M (f (j + i)) = some u ∧ (xs.drop (i * 3)).take 3 = [u, .int .i64 (nth L i).2.1, .bool (nth L i).2.2]
  | [], j, xs, h, i, hi => absurd hi (by simp)
  | a :: L, j, xs, h, i, hi => by
    unfold rA at h
    unfold DenVs at h
    obtain ⟨u, r, rfl, hu, h⟩ := h
    unfold DenVs at h
    obtain ⟨u1, r1, rfl, hu1, h⟩ := h
    unfold DenVs at h
    obtain ⟨u2, r2, rfl, hu2, h⟩ := h
    cases i with
    | zero =>
      unfold DenV at hu
      refine ⟨u, by rw [Nat.add_zero]; exact hu.1, ?_⟩
      rw [hu1.int, hu2.bool]
      rfl
    | succ i =>
      obtain ⟨v, h1, h2⟩ := rA_cells h i (by simpa using hi)
      refine ⟨v, by rw [show j + (i + 1) = j + 1 + i by omega]; exact h1, ?_⟩
      rw [show (i + 1) * 3 = i * 3 + 3 by omega]
      simpa [nth_succ] using h2
theorem rA_den {M : Key → Option Value} {F : Nat → Prop} {w : World} {f : Nat → Key} : ∀ {L : List At} {j : Nat} {xs : List Value}, xs.length = L.length * 3 → (∀ i, i < L.length → ∃ u A cap, M (f (j + i)) = some u ∧ u = .slice A (nth L i).1.length cap ∧ ((nth L i).1.length = 0 ∨ ∃ b o, A = some ⟨b, o, none⟩) ∧ (xs.drop (i * 3)).take 3 = [u, .int .i64 (nth L i).2.1, .bool (nth L i).2.2]) → DenVs M F w (rA f j L) xs
  | [], j, xs, hl, h => by
    obtain rfl := List.eq_nil_of_length_eq_zero (by simpa using hl)
    unfold rA; exact DenVs.nil
  | a :: L, j, xs, hl, h => by
    obtain ⟨u, A, cap, h1, h2, h3, h4⟩ := h 0 (by simp)
    rw [Nat.zero_mul, List.drop_zero] at h4
    obtain ⟨r, rfl⟩ : ∃ r, xs = u :: .int .i64 a.2.1 :: .bool a.2.2 :: r := by
      match xs, hl, h4 with
      | x :: y :: z :: r, _, h4 =>
        simp only [List.take_succ_cons, List.take_zero, List.cons.injEq, and_true] at h4
        obtain ⟨rfl, rfl, rfl⟩ := h4
        exact ⟨r, rfl⟩
      | [], hl, _ => simp at hl
      | [x], hl, _ => simp at hl; omega
      | [x, y], hl, _ => simp at hl; omega
    unfold rA
    refine DenVs.cons (by unfold DenV; exact ⟨h1, A, cap, h2, h3⟩) (DenVs.cons (by unfold DenV DenD; rfl) (DenVs.cons (by unfold DenV DenD; rfl) (rA_den (by simp at hl; omega) fun i hi => ?_)))
    obtain ⟨u', A', cap', k1, k2, k3, k4⟩ := h (i + 1) (by simp; omega)
    refine ⟨u', A', cap', by rw [show j + 1 + i = j + (i + 1) by omega]; exact k1, k2, k3, ?_⟩
    rw [show (i + 1) * 3 = i * 3 + 3 by omega] at k4
    simpa [nth_succ] using k4
def sortUp (k : Key) (fs n s : Nat) (S : List At) : Key → Option (Option Ent) := fun k' => if k' = k then some (some (.row 26 S.length (rA (fun j => (s, j)) 0 S)))
  else if k'.1 = s then (match ownA S k'.2 with | some e => some (some e) | none => none) else if k'.1 = fs ∧ k'.2 < n then some none else none
structure SE (L : List At) (M : Key → Option Value) (fs : Nat) where
  c : List Value
  i : Nat
  u : Value
  hi : i < L.length
  hu : M (fs, i) = some u
  hc : c = [u, .int .i64 (nth L i).2.1, .bool (nth L i).2.2]
def SE.a {L : List At} {M : Key → Option Value} {fs : Nat} (x : SE L M fs) : At := nth L x.i
theorem SE.mem {L : List At} {M : Key → Option Value} {fs : Nat} (x : SE L M fs) : x.a ∈ L := nth_mem x.hi
theorem SE.len {L : List At} {M : Key → Option Value} {fs : Nat} (x : SE L M fs) : x.c.length = 3 := by rw [x.hc]; rfl
theorem run_isAgg52 (w : World) : (isAgg 26).run Try.prog w = .ok true w := digest_isAgg dg26 w
theorem run_size52 (w : World) : (Go.sizeOf 26).run Try.prog w = .ok 3 w := run_sizeOf_digest dg26 w
end Go.Proofs.Ytohoibekddhneaa.ZL
namespace Go.Proofs.Ytohoibekddhneaa.ZL
open Go Go.Proofs.Ytohoibekddhneaa.Abs Go.Proofs.Ytohoibekddhneaa.Abs.Pl Go.RowKit Go.Proofs
set_option linter.unusedVariables false
set_option linter.unusedSimpArgs false
theorem rowA_den {M : Key → Option Value} {F : Nat → Prop} {w : World} {H : Store} (hR : Real Try.prog M F w H) {k k2 : Key} {e2 : Ent} {a : At} {u u2 : Value} {g : Nat} (h : H k = some (rowA a)) (hu : M k = some u)
    (h2 : H k2 = some e2) (hl : e2.live = true) (hu2 : M k2 = some u2) (hg : blkOf u2 = some g) (hne : k ≠ k2) : DenD (fun b => b = g) w (.sl a.1.length (a.1.map (.int .i64))) u := by
  obtain ⟨x, hx, hok, hFb⟩ := hR.ent _ _ h2
  rw [hu2] at hx; obtain rfl := Option.some.inj hx
  obtain ⟨y, hy, hok1, _⟩ := hR.ent _ _ h
  rw [hu] at hy; obtain rfl := Option.some.inj hy
  have hd : DenV M F w (.ref k a.1.length) u := by
    unfold DenV
    refine ⟨hu, ?_⟩
    rcases hok1 with ⟨xs, i, _, hown, _⟩ | ⟨A, h1, h3, _⟩
    · rcases hown.2 with ⟨rfl, h0⟩ | ⟨g', cap, cur, rfl, _⟩
      · exact ⟨none, 0, by rw [h0], .inl h0⟩
      · exact ⟨_, _, rfl, .inr ⟨_, _, rfl⟩⟩
    · exact ⟨A, 0, by rw [h1, h3], .inl h3⟩
  refine lendD_den (al := true) (n := 1) (Fc := fun b => b = g) (ks := [k]) hR (fun b hb => by subst hb; exact hFb hl _ hg) ?_ (fun _ b hb => ?_) hd
  · rw [lendD_ref, h]
    simp [lendR, rowA, dl_joinO, consK]
  · rintro ⟨k', hk', e, v, h3, h4, h5, h6⟩
    obtain rfl := List.mem_singleton.1 hk'
    subst hb
    exact hne (hR.inj _ _ _ _ _ _ _ h3 h2 h4 hl h5 hu2 h6 hg)
end Go.Proofs.Ytohoibekddhneaa.ZL
namespace Go.Proofs.Ytohoibekddhneaa.ZL
open Go Go.Proofs.Ytohoibekddhneaa.Abs Go.Proofs.Ytohoibekddhneaa.Abs.Pl Go.RowKit Go.Proofs
set_option linter.unusedVariables false
set_option linter.unusedSimpArgs false
theorem sortUp_k (k : Key) (fs n s : Nat) (S : List At) (H : Store) : app (sortUp k fs n s S) H k = some (.row 26 S.length (rA (fun j => (s, j)) 0 S)) := by simp [app, sortUp]
theorem sortUp_j (k : Key) (fs n s : Nat) (S : List At) (H : Store) (j : Nat) (h : j < S.length) (hk : k.1 ≠ s) : app (sortUp k fs n s S) H (s, j) = some (rowA (nth S j)) := by
  have : (s, j) ≠ k := fun e => hk (by rw [← e])
  simp [app, sortUp, this, ownA_lt h]
theorem sortUp_ne (k : Key) (fs n s : Nat) (S : List At) (H : Store) (a b : Nat) (h : (a, b) ≠ k) (h1 : a ≠ s) (h2 : a ≠ fs) : app (sortUp k fs n s S) H (a, b) = H (a, b) := by simp [app, sortUp, h, h1, h2]
attribute [simp] sortUp_k sortUp_ne
end Go.Proofs.Ytohoibekddhneaa.ZL
namespace Go.Proofs.Ytohoibekddhneaa.ZL
open Go Go.Proofs.Ytohoibekddhneaa.Abs Go.Proofs.Ytohoibekddhneaa.Abs.Pl Go.RowKit Go.Proofs
set_option linter.unusedVariables false
set_option linter.unusedSimpArgs false
abbrev O1 (d : Int) (R : List At) : V := .agg [I d, .ref (0, 0) R.length]
def noBad (L : List At) : Prop := L.any badA = false
def selA (s : Nat) (S : List At) (sel : List Nat) : List V := rA (fun j => (s, nth sel j)) 0 (sel.map (nth S))
theorem nth_app {α : Type} [Inhabited α] {l m : List α} {i : Nat} (h : i < l.length) : nth (l ++ m) i = nth l i := by rw [nth_eq h, nth_eq (by simp [-Bool.exists_bool, -Int.not_le, -Int.not_lt, -getElem?_pos, -List.getD_eq_getElem?_getD]; omega), List.getElem_append_left h]
theorem nth_last {α : Type} [Inhabited α] (l : List α) (a : α) : nth (l ++ [a]) l.length = a := by rw [nth_eq (by simp [-Bool.exists_bool, -Int.not_le, -Int.not_lt, -getElem?_pos, -List.getD_eq_getElem?_getD])]; simp [-Bool.exists_bool, -Int.not_le, -Int.not_lt, -getElem?_pos, -List.getD_eq_getElem?_getD]
theorem nth_map {α β : Type} [Inhabited α] [Inhabited β] (f : α → β) {l : List α} {i : Nat} (h : i < l.length) : nth (l.map f) i = f (nth l i) := by rw [nth_eq h, nth_eq (by simpa [-Bool.exists_bool, -Int.not_le, -Int.not_lt, -getElem?_pos, -List.getD_eq_getElem?_getD] using h)]; simp [-Bool.exists_bool, -Int.not_le, -Int.not_lt, -getElem?_pos, -List.getD_eq_getElem?_getD]
theorem selA_push (s : Nat) (S : List At) (sel : List Nat) (i : Nat) : selA s S (sel ++ [i]) = selA s S sel ++ [.ref (s, i) (nth S i).1.length, I (nth S i).2.1, B (nth S i).2.2] := by
  unfold selA
  rw [List.map_append, rA_append]
  congr 1
  · exact rA_congr _ _ (fun j hj => by rw [Nat.zero_add, nth_app (by simpa [-Bool.exists_bool, -Int.not_le, -Int.not_lt, -getElem?_pos, -List.getD_eq_getElem?_getD] using hj)])
  · simp [-Bool.exists_bool, -Int.not_le, -Int.not_lt, -getElem?_pos, -List.getD_eq_getElem?_getD, rA, nth_last]
theorem ddN_two {S : List At} {i : Nat} (h : i + 1 < S.length) : ddN (S.drop i) = if wayAt (nth S i).1 (nth S (i + 1)).1 = 0 then ddN (S.drop (i + 1)) else nth S i :: ddN (S.drop (i + 1)) := by
  rw [nth_drop (by omega : i < S.length), nth_drop h, ddN]
theorem ddN_one {S : List At} {i : Nat} (h : i < S.length) (h2 : ¬ i + 1 < S.length) : ddN (S.drop i) = [nth S i] := by
  rw [nth_drop h, drop_nil (by omega)]; rfl
end Go.Proofs.Ytohoibekddhneaa.ZL
namespace Go.Proofs.Ytohoibekddhneaa.ZL
open Go Go.Proofs.Ytohoibekddhneaa.Abs Go.Proofs.Ytohoibekddhneaa.Abs.Pl Go.RowKit Go.Proofs
set_option linter.unusedVariables false
set_option linter.unusedSimpArgs false
def oV (r : Int × List At × Bool) : V := if r.2.2 = true then .tup [O1 r.1 r.2.1, B true] else .tup [.agg [I 0, .nil], B false]
def oH (r : Int × List At × Bool) : Store := if r.2.2 = true then ownR r.2.1 else hemp
theorem oV_t {r : Int × List At × Bool} (h : r.2.2 = true) : oV r = .tup [O1 r.1 r.2.1, B true] := if_pos h
theorem oV_f {r : Int × List At × Bool} (h : ¬ r.2.2 = true) : oV r = .tup [.agg [I 0, .nil], B false] := if_neg h
theorem oH_t {r : Int × List At × Bool} (h : r.2.2 = true) : oH r = ownR r.2.1 := if_pos h
theorem oH_f {r : Int × List At × Bool} (h : ¬ r.2.2 = true) : oH r = hemp := if_neg h
theorem Cn.weak {f : Nat} {vs : List V} {r : Int × List At × Bool} (h0 : ¬ r.2.2 = true → r = (0, [], false)) (h : Cn Try.prog f vs (oV r) (oH r)) : Cn Try.prog f vs (D2 r) hemp := by
  by_cases hr : r.2.2 = true
  · rw [oV_t hr, oH_t hr] at h
    refine Cn.freeze 2 h ?_
    simp only [lendT, lendVs, lendV, List.map_cons, List.map_nil, joinO, own_lend, lendD_d, hr, D2]
  · rw [oV_f hr, oH_f hr] at h
    rw [h0 hr]
    refine Cn.freeze 2 h ?_
    simp only [lendT, lendVs, lendV, List.map_cons, List.map_nil, joinO, lendD_d, lendD_nil, D2]
    rfl
def dropD (d : Int) (L : List At) (v : Int) : Int × List At × Bool := if isCe d L = true ∧ 0 ≤ v ∧ v < d then dropC d v.toNat L else (0, [], false)
theorem limN_f {d : Int} {M : List At} (h : ¬ (limN d M).2.2 = true) : limN d M = (0, [], false) := by
  unfold limN at h ⊢
  split
  · rfl
  · rename_i h2; rw [if_neg h2] at h; exact absurd rfl h
theorem dropC_f {d : Int} {v : Nat} {L : List At} (h : ¬ (dropC d v L).2.2 = true) : dropC d v L = (0, [], false) := by
  unfold dropC at h ⊢
  split
  · rfl
  · rename_i M e; rw [e] at h; exact limN_f h
theorem dropD_f {d : Int} {v : Int} {L : List At} (h : ¬ (dropD d L v).2.2 = true) : dropD d L v = (0, [], false) := by
  unfold dropD at h ⊢
  split
  · rename_i h2; rw [if_pos h2] at h; exact dropC_f h
  · rfl
end Go.Proofs.Ytohoibekddhneaa.ZL
namespace Go.Proofs.Ytohoibekddhneaa.ZL
open Go Go.Proofs.Ytohoibekddhneaa.Abs Go.Proofs.Ytohoibekddhneaa.Abs.Pl Go.RowKit Go.Proofs
set_option linter.unusedVariables false
set_option linter.unusedSimpArgs false
def chain (d : Int) : Nat → List At → Option (List Ce)
  | 0, L => some [(d, L)]
  | n + 1, L => if (dropC d n L).2.2 = true then (chain d n (dropC d n L).2.1).map (· ++ [(d, L)]) else none
theorem chain_elim (d : Int) : ∀ (n : Nat) (L : List At), (chain d n L).map (fun Z => (nth Z 0).2) = elim d n L
  | 0, L => rfl
  | n + 1, L => by
    unfold chain elim
    by_cases h : (dropC d n L).2.2 = true
    · rw [if_pos h, if_pos h, ← chain_elim d n]
      cases hc : chain d n (dropC d n L).2.1 with
      | none => rfl
      | some Z =>
        have hz : 0 < Z.length := by
          cases n with
          | zero => unfold chain at hc; obtain rfl := Option.some.inj hc; simp [-Bool.exists_bool, -Int.not_le, -Int.not_lt, -getElem?_pos, -List.getD_eq_getElem?_getD]
          | succ n =>
            unfold chain at hc
            split at hc
            · cases h2 : chain d n (dropC d n (dropC d (n + 1) L).2.1).2.1 with
              | none => rw [h2] at hc; simp [-Bool.exists_bool, -Int.not_le, -Int.not_lt, -getElem?_pos, -List.getD_eq_getElem?_getD] at hc
              | some W => rw [h2] at hc; obtain rfl := Option.some.inj hc; simp [-Bool.exists_bool, -Int.not_le, -Int.not_lt, -getElem?_pos, -List.getD_eq_getElem?_getD]
            · simp [-Bool.exists_bool, -Int.not_le, -Int.not_lt, -getElem?_pos, -List.getD_eq_getElem?_getD] at hc
        simp [-Bool.exists_bool, -Int.not_le, -Int.not_lt, -getElem?_pos, -List.getD_eq_getElem?_getD, nth_app hz]
    · rw [if_neg h, if_neg h]; rfl
def projs (d : Int) (L : List At) : Option (List Ce) := if isCe d L = true then chain d d.toNat (nrm d L) else none
def pV (r : Option (List Ce)) : V := match r with
  | none => .tup [.nil, B false]
  | some Z => .tup [Cs Z, B true]
def zs (m : Nat) (d : Int) (R : List At) (Y : List Ce) : List Ce := List.replicate m (0, []) ++ (d, R) :: Y
theorem zs_nth (m : Nat) (d : Int) (R : List At) (Y : List Ce) : nth (zs m d R Y) m = (d, R) := by
  have := nth_eq (l := zs m d R Y) (i := m) (by simp [-Bool.exists_bool, -Int.not_le, -Int.not_lt, -getElem?_pos, -List.getD_eq_getElem?_getD, zs])
  rw [this]
  simp [-Bool.exists_bool, -Int.not_le, -Int.not_lt, -getElem?_pos, -List.getD_eq_getElem?_getD, zs]
theorem zs_len (m : Nat) (d : Int) (R : List At) (Y : List Ce) : (zs m d R Y).length = m + 1 + Y.length := by simp [-Bool.exists_bool, -Int.not_le, -Int.not_lt, -getElem?_pos, -List.getD_eq_getElem?_getD, zs]; omega
theorem zs_step (n : Nat) (d : Int) (R S : List At) (Y : List Ce) : (zs (n + 1) d R Y).take n ++ (d, S) :: (zs (n + 1) d R Y).drop (n + 1) = zs n d S ((d, R) :: Y) := by
  simp [-Bool.exists_bool, -Int.not_le, -Int.not_lt, -getElem?_pos, -List.getD_eq_getElem?_getD, zs, List.replicate_succ', List.take_append, List.drop_append]
theorem rep2_len (n : Nat) (a b : V) : (repV n [a, b]).length = n * 2 := by simp [-Bool.exists_bool, -Int.not_le, -Int.not_lt, -getElem?_pos, -List.getD_eq_getElem?_getD, repV]
theorem rep2_succ (n : Nat) (a b : V) : repV (n + 1) [a, b] = repV n [a, b] ++ [a, b] := by
  refine List.ext_getElem? fun i => ?_
  by_cases h : i < n * 2
  · rw [List.getElem?_append_left (by rw [rep2_len]; exact h)]
    have h2 : i < (n + 1) * 2 := by omega
    simp [-Bool.exists_bool, -Int.not_le, -Int.not_lt, -getElem?_pos, -List.getD_eq_getElem?_getD, repV, List.getElem?_range h, List.getElem?_range h2]
  · rw [List.getElem?_append_right (by rw [rep2_len]; omega), rep2_len]
    by_cases h0 : i = n * 2
    · subst h0; simp [-Bool.exists_bool, -Int.not_le, -Int.not_lt, -getElem?_pos, -List.getD_eq_getElem?_getD, repV, List.getElem?_range (show n * 2 < (n + 1) * 2 by omega)]
    · by_cases h1 : i = n * 2 + 1
      · subst h1
        have h2 : n * 2 + 1 < (n + 1) * 2 := by omega
        have h3 : (n * 2 + 1) % 2 = 1 := by omega
        have h4 : n * 2 + 1 - n * 2 = 1 := by omega
        simp [-Bool.exists_bool, -Int.not_le, -Int.not_lt, -getElem?_pos, -List.getD_eq_getElem?_getD, repV, List.getElem?_range h2, h3, h4]
      · rw [List.getElem?_eq_none (by rw [rep2_len]; omega), List.getElem?_eq_none (by simp [-Bool.exists_bool, -Int.not_le, -Int.not_lt, -getElem?_pos, -List.getD_eq_getElem?_getD]; omega)]
theorem rep2_VLes {H : Store} {inv : Key → Key} {nx : Nat} (d : Int) (R : List At) : ∀ n : Nat, VLes H inv nx (repV n [I 0, .nil] ++ [I d, As R]) (dl (csD (zs n d R [])))
  | 0 => by
    have : repV 0 [I 0, .nil] = [] := rfl
    rw [this]
    simp [-Bool.exists_bool, -Int.not_le, -Int.not_lt, -getElem?_pos, -List.getD_eq_getElem?_getD, zs, csD, cD, VLes, dl, VLe, asDz]
  | n + 1 => by
    have ih := rep2_VLes (H := H) (inv := inv) (nx := nx) d R n
    have e : repV (n + 1) [I 0, .nil] = [I 0, .nil] ++ repV n [I 0, .nil] := by
      clear ih
      induction n with
      | zero => rfl
      | succ n ih => rw [rep2_succ, ih, List.append_assoc, ← rep2_succ n, ← ih]
    rw [e]
    have e2 : dl (csD (zs (n + 1) d R [])) = V.d (.int .i64 0) :: V.d (.sl 0 []) :: dl (csD (zs n d R [])) := by rw [zs, List.replicate_succ, List.cons_append, csD_cons]; rfl
    rw [e2]
    simp [-Bool.exists_bool, -Int.not_le, -Int.not_lt, -getElem?_pos, -List.getD_eq_getElem?_getD, VLes, VLe, asDz, ih]
theorem csD_drop2 (L : List Ce) (i : Nat) : (csD L).drop (i * 2 + 2) = csD (L.drop (i + 1)) := by rw [← csD_dropE]; congr 1; omega
theorem projs_empty (d : Int) (L : List At) : emptyC d L = match projs d L with
    | none => (false, false)
    | some Z => (decide (0 < (nth Z 0).2.length), true) := by
  unfold emptyC projs
  by_cases h : isCe d L = true
  · rw [if_pos h, if_pos h, ← chain_elim]
    cases chain d d.toNat (nrm d L) <;> rfl
  · rw [if_neg h, if_neg h]
theorem chain_pos {d : Int} : ∀ {n : Nat} {L : List At} {Z : List Ce}, chain d n L = some Z → Z.length = n + 1
  | 0, L, Z, h => by unfold chain at h; obtain rfl := Option.some.inj h; rfl
  | n + 1, L, Z, h => by
    unfold chain at h
    split at h
    · cases hc : chain d n (dropC d n L).2.1 with
      | none => rw [hc] at h; simp [-Bool.exists_bool, -Int.not_le, -Int.not_lt, -getElem?_pos, -List.getD_eq_getElem?_getD] at h
      | some W => rw [hc] at h; obtain rfl := Option.some.inj h; simp [-Bool.exists_bool, -Int.not_le, -Int.not_lt, -getElem?_pos, -List.getD_eq_getElem?_getD, chain_pos hc]
    · simp [-Bool.exists_bool, -Int.not_le, -Int.not_lt, -getElem?_pos, -List.getD_eq_getElem?_getD] at h
end Go.Proofs.Ytohoibekddhneaa.ZL
namespace Go.Proofs.Ytohoibekddhneaa.ZL
open Go Go.Proofs.Ytohoibekddhneaa.Abs Go.Proofs.Ytohoibekddhneaa.Abs.Pl Go.RowKit Go.Proofs
set_option linter.unusedVariables false
set_option linter.unusedSimpArgs false
def lft (l : Int) (n : Nat) : Int := if l - n < 0 then -1 else l - n
def okL (l : Int) : Prop := 0 ≤ l ∧ l ≤ 1048576
theorem lft_neg {l : Int} {n : Nat} (h : l < n) : lft l n = -1 := if_pos (by omega)
theorem lft_pos {l : Int} {n : Nat} (h : ¬ l < n) : lft l n = l - n := if_neg (by omega)
theorem lft_ok {l : Int} {n : Nat} (hl : okL l) (h : ¬ lft l n < 0) : okL (lft l n) ∧ lft l n = l - n := by
  unfold lft at h ⊢
  unfold okL at hl ⊢
  split
  · rename_i h2; rw [if_pos h2] at h; omega
  · exact ⟨⟨by omega, by omega⟩, rfl⟩
theorem lft_lft {l : Int} {a b : Nat} (hl : okL l) (h : ¬ lft l a < 0) : lft l (a + b) = lft (lft l a) b := by
  obtain ⟨_, h2⟩ := lft_ok hl h
  rw [h2]; unfold lft
  rw [show l - ((a + b : Nat) : Int) = l - a - b by omega]
theorem lft_bad {l : Int} {a b : Nat} (hl : okL l) (h : lft l a < 0) : lft l (a + b) = -1 := by
  unfold lft at h ⊢
  unfold okL at hl
  split at h <;> split <;> omega
def wS {α : Type} (w : α → Nat) : List α → Nat
  | [] => 0
  | a :: l => w a + wS w l
def wA (a : At) : Nat := a.1.length
def wAs (L : List At) : Nat := L.length + wS wA L
def wC (c : Ce) : Nat := wAs c.2
def wCs (L : List Ce) : Nat := L.length + wS wC L
def wfA (a : At) : Prop := a.1.length ≤ maxLen
def wfAs (L : List At) : Prop := L.length ≤ maxLen ∧ ∀ a ∈ L, wfA a
def wfC (c : Ce) : Prop := wfAs c.2
def wfCs (L : List Ce) : Prop := L.length ≤ maxLen ∧ ∀ c ∈ L, wfC c
theorem szIntS (l : List Int) (k : Int) (hk : okL k) (hl : l.length ≤ maxLen) : Cn Try.prog 89 [Is l, I k] (I (lft k l.length)) hemp := by
  refine Cn.of [] mixed Try.func89 rfl Try.call89 (by kernel_rfl) rfl ?_
  simp -implicitDefEqProofs -dsimp +contextual [-Bool.exists_bool, -Int.not_le, -Int.not_lt, -getElem?_pos, -List.getD_eq_getElem?_getD, Try.f89]
  obtain ⟨h1, h2⟩ := hk
  unfold maxLen at hl
  rw [wr (by omega) (by omega)]
  refine ⟨fun h => RLe.ii ?_, fun h => RLe.ii ?_⟩
  · rw [lft_neg (by omega)]
  · rw [lft_pos (by omega)]
theorem szAtom (a : At) (k : Int) (hk : okL k) (hl : wfA a) : Cn Try.prog 79 [A1 a, I k] (I (lft k (wA a))) hemp := by
  refine Cn.of [] mixed Try.func79 rfl Try.call79 (by kernel_rfl) rfl ?_
  simp -implicitDefEqProofs -dsimp +contextual [-Bool.exists_bool, -Int.not_le, -Int.not_lt, -getElem?_pos, -List.getD_eq_getElem?_getD, Try.f79]
  refine CallJ.pure (szIntS a.1 k hk hl) rfl (by simp [-Bool.exists_bool, -Int.not_le, -Int.not_lt, -getElem?_pos, -List.getD_eq_getElem?_getD]) ?_
  simp -implicitDefEqProofs -dsimp +contextual [-Bool.exists_bool, -Int.not_le, -Int.not_lt, -getElem?_pos, -List.getD_eq_getElem?_getD]
  refine ⟨fun h => RLe.ii ?_, fun h => RLe.ii rfl⟩
  have : lft k a.1.length < 0 := h
  unfold okL at hk
  unfold lft at this ⊢
  unfold wA
  split at this <;> split <;> omega
theorem szAtomS (L : List At) (k : Int) (hk : okL k) (hl : wfAs L) : Cn Try.prog 46 [As L, I k] (I (lft k (wAs L))) hemp := by
  obtain ⟨hl1, hl2⟩ := hl
  refine Cn.of [] mixed Try.func46 rfl Try.call46 (by kernel_rfl) rfl ?_
  simp -implicitDefEqProofs -dsimp +contextual [-Bool.exists_bool, -Int.not_le, -Int.not_lt, -getElem?_pos, -List.getD_eq_getElem?_getD, Try.f46]
  have hl1' := hl1
  unfold maxLen at hl1'
  have hk' := hk
  obtain ⟨h1, h2⟩ := hk'
  rw [wr (by omega) (by omega)]
  refine ⟨fun h => RLe.ii ?_, fun h => ?_⟩
  · rw [wAs, lft_bad hk (by rw [lft_neg (by omega)]; omega)]
  have h0 : ¬ lft k L.length < 0 := by rw [lft_pos (by omega)]; omega
  have e0 : lft k L.length = k - L.length := lft_pos (by omega)
  refine WP.loop mixed [] (fun p : Nat × Int => ⟨tl [(0, As L), (1, I p.2), (5, I p.1)], hl [], 1⟩) (fun p => p.1 ≤ L.length ∧ okL p.2 ∧ lft k (wAs L) = lft p.2 (wS wA (L.drop p.1))) (fun p => L.length - p.1) (0, lft k L.length) (by kernel_rfl) ?_ ?_ ?_
  · rw [e0]; refine Le.told [] ?_ ?_ ?_ <;> simp [-Bool.exists_bool, -Int.not_le, -Int.not_lt, -getElem?_pos, -List.getD_eq_getElem?_getD]
  · exact ⟨Nat.zero_le _, (lft_ok hk h0).1, lft_lft hk h0⟩
  · rintro ⟨i, c⟩ ⟨hi, hc, he⟩
    simp only at hi hc he
    simp -implicitDefEqProofs -dsimp +contextual [-Bool.exists_bool, -Int.not_le, -Int.not_lt, -getElem?_pos, -List.getD_eq_getElem?_getD]
    refine ⟨fun h => ?_, fun h => ?_⟩
    · refine CallJ.pure (szAtom (nth L i) c hc (hl2 _ (nth_mem h))) rfl (by simp [-Bool.exists_bool, -Int.not_le, -Int.not_lt, -getElem?_pos, -List.getD_eq_getElem?_getD]) ?_
      simp -implicitDefEqProofs -dsimp +contextual [-Bool.exists_bool, -Int.not_le, -Int.not_lt, -getElem?_pos, -List.getD_eq_getElem?_getD, h]
      rw [nth_drop h, wS] at he
      refine ⟨fun hn => RLe.ii ?_, fun hn => ?_⟩
      · rw [he, lft_bad hc hn]
      · refine ⟨i + 1, _, ⟨h, (lft_ok hc hn).1, by rw [he, lft_lft hc hn]⟩, by omega, ?_⟩
        rw [wr (by omega) (by omega)]
        refine Le.told [] ?_ ?_ ?_ <;> simp [-Bool.exists_bool, -Int.not_le, -Int.not_lt, -getElem?_pos, -List.getD_eq_getElem?_getD]
    · rw [drop_nil (by omega)] at he
      refine RLe.ii ?_
      rw [he]
      unfold okL at hc
      rw [wS, lft_pos (by omega)]; simp [-Bool.exists_bool, -Int.not_le, -Int.not_lt, -getElem?_pos, -List.getD_eq_getElem?_getD]
end Go.Proofs.Ytohoibekddhneaa.ZL
namespace Go.Proofs.Ytohoibekddhneaa.ZL
open Go Go.Proofs.Ytohoibekddhneaa.Abs Go.Proofs.Ytohoibekddhneaa.Abs.Pl Go.RowKit Go.Proofs
set_option linter.unusedVariables false
set_option linter.unusedSimpArgs false
theorem szCell (c : Ce) (k : Int) (hk : okL k) (hl : wfC c) : Cn Try.prog 14 [.agg (cV c), I k] (I (lft k (wC c))) hemp := by
  refine Cn.of [] mixed Try.func14 rfl Try.call14 (by kernel_rfl) rfl ?_
  simp -implicitDefEqProofs -dsimp +contextual [-Bool.exists_bool, -Int.not_le, -Int.not_lt, -getElem?_pos, -List.getD_eq_getElem?_getD, Try.f14]
  refine CallJ.pure (szAtomS c.2 k hk hl) rfl (by simp [-Bool.exists_bool, -Int.not_le, -Int.not_lt, -getElem?_pos, -List.getD_eq_getElem?_getD]) ?_
  simp -implicitDefEqProofs -dsimp +contextual [-Bool.exists_bool, -Int.not_le, -Int.not_lt, -getElem?_pos, -List.getD_eq_getElem?_getD]
  refine ⟨fun h => RLe.ii ?_, fun h => RLe.ii rfl⟩
  have : lft k (wAs c.2) < 0 := h
  unfold okL at hk
  unfold lft at this ⊢
  unfold wC
  split at this <;> split <;> omega
theorem szCellS (L : List Ce) (k : Int) (hk : okL k) (hl : wfCs L) : Cn Try.prog 61 [Cs L, I k] (I (lft k (wCs L))) hemp := by
  obtain ⟨hl1, hl2⟩ := hl
  refine Cn.of [] mixed Try.func61 rfl Try.call61 (by kernel_rfl) rfl ?_
  simp -implicitDefEqProofs -dsimp +contextual [-Bool.exists_bool, -Int.not_le, -Int.not_lt, -getElem?_pos, -List.getD_eq_getElem?_getD, Try.f61]
  have hl1' := hl1
  unfold maxLen at hl1'
  have hk' := hk
  obtain ⟨h1, h2⟩ := hk'
  rw [wr (by omega) (by omega)]
  refine ⟨fun h => RLe.ii ?_, fun h => ?_⟩
  · rw [wCs, lft_bad hk (by rw [lft_neg (by omega)]; omega)]
  have h0 : ¬ lft k L.length < 0 := by rw [lft_pos (by omega)]; omega
  have e0 : lft k L.length = k - L.length := lft_pos (by omega)
  refine WP.loop mixed [] (fun p : Nat × Int => ⟨tl [(0, Cs L), (1, I p.2), (5, I p.1)], hl [], 1⟩) (fun p => p.1 ≤ L.length ∧ okL p.2 ∧ lft k (wCs L) = lft p.2 (wS wC (L.drop p.1))) (fun p => L.length - p.1) (0, lft k L.length) (by kernel_rfl) ?_ ?_ ?_
  · rw [e0]; refine Le.told [] ?_ ?_ ?_ <;> simp [-Bool.exists_bool, -Int.not_le, -Int.not_lt, -getElem?_pos, -List.getD_eq_getElem?_getD]
  · exact ⟨Nat.zero_le _, (lft_ok hk h0).1, lft_lft hk h0⟩
  · rintro ⟨i, c⟩ ⟨hi, hc, he⟩
    simp only at hi hc he
    simp -implicitDefEqProofs -dsimp +contextual [-Bool.exists_bool, -Int.not_le, -Int.not_lt, -getElem?_pos, -List.getD_eq_getElem?_getD]
    refine ⟨fun h => ?_, fun h => ?_⟩
    · refine CallJ.pure (szCell (nth L i) c hc (hl2 _ (nth_mem h))) rfl (by simp [-Bool.exists_bool, -Int.not_le, -Int.not_lt, -getElem?_pos, -List.getD_eq_getElem?_getD]) ?_
      simp -implicitDefEqProofs -dsimp +contextual [-Bool.exists_bool, -Int.not_le, -Int.not_lt, -getElem?_pos, -List.getD_eq_getElem?_getD, h]
      rw [nth_drop h, wS] at he
      refine ⟨fun hn => RLe.ii ?_, fun hn => ?_⟩
      · rw [he, lft_bad hc hn]
      · refine ⟨i + 1, _, ⟨h, (lft_ok hc hn).1, by rw [he, lft_lft hc hn]⟩, by omega, ?_⟩
        rw [wr (by omega) (by omega)]
        refine Le.told [] ?_ ?_ ?_ <;> simp [-Bool.exists_bool, -Int.not_le, -Int.not_lt, -getElem?_pos, -List.getD_eq_getElem?_getD]
    · rw [drop_nil (by omega)] at he
      refine RLe.ii ?_
      rw [he]
      unfold okL at hc
      rw [wS, lft_pos (by omega)]; simp [-Bool.exists_bool, -Int.not_le, -Int.not_lt, -getElem?_pos, -List.getD_eq_getElem?_getD]
theorem szRegion (d : Int) (L : List Ce) (k : Int) (hk : okL k) (hl : wfCs L) : Cn Try.prog 28 [R1 d L, I k] (I (lft k (wCs L))) hemp := by
  refine Cn.of [] mixed Try.func28 rfl Try.call28 (by kernel_rfl) rfl ?_
  simp -implicitDefEqProofs -dsimp +contextual [-Bool.exists_bool, -Int.not_le, -Int.not_lt, -getElem?_pos, -List.getD_eq_getElem?_getD, Try.f28]
  refine CallJ.pure (szCellS L k hk hl) rfl (by simp [-Bool.exists_bool, -Int.not_le, -Int.not_lt, -getElem?_pos, -List.getD_eq_getElem?_getD]) ?_
  simp -implicitDefEqProofs -dsimp +contextual [-Bool.exists_bool, -Int.not_le, -Int.not_lt, -getElem?_pos, -List.getD_eq_getElem?_getD]
  refine ⟨fun h => RLe.ii ?_, fun h => RLe.ii rfl⟩
  have : lft k (wCs L) < 0 := h
  unfold okL at hk
  unfold lft at this ⊢
  split at this <;> split <;> omega
def cpy (l : List Int) (i : Nat) : List Int := l.take i ++ List.replicate (l.length - i) 0
theorem cpy_len (l : List Int) (i : Nat) (h : i ≤ l.length) : (cpy l i).length = l.length := by simp [-Bool.exists_bool, -Int.not_le, -Int.not_lt, -getElem?_pos, -List.getD_eq_getElem?_getD, cpy]; omega
theorem cpy_set (l : List Int) (i : Nat) (h : i < l.length) : (cpy l i).set i (nth l i) = cpy l (i + 1) := by
  have e : l.length - i = (l.length - (i + 1)) + 1 := by omega
  unfold cpy
  rw [e, List.replicate_succ, nth_take h, List.set_append_right _ _ (by simp [-Bool.exists_bool, -Int.not_le, -Int.not_lt, -getElem?_pos, -List.getD_eq_getElem?_getD]; omega)]
  simp [-Bool.exists_bool, -Int.not_le, -Int.not_lt, -getElem?_pos, -List.getD_eq_getElem?_getD, Nat.min_eq_left (Nat.le_of_lt h)]
theorem cpy_end (l : List Int) : cpy l l.length = l := by simp [-Bool.exists_bool, -Int.not_le, -Int.not_lt, -getElem?_pos, -List.getD_eq_getElem?_getD, cpy]
theorem toIntS (l : List Int) (h20 : l.length ≤ 1048576) : Cn Try.prog 90 [Is l] (.ref (0, 0) l.length) (hl [((0, 0), .row 3 l.length (dl (l.map (.int .i64))))]) := by
  refine Cn.of [] mixed Try.func90 rfl Try.call90 (by kernel_rfl) rfl ?_
  simp -implicitDefEqProofs -dsimp +contextual [-Bool.exists_bool, -Int.not_le, -Int.not_lt, -getElem?_pos, -List.getD_eq_getElem?_getD, Try.f90]
  refine ⟨⟨by omega, by simp [-Bool.exists_bool, -Int.not_le, -Int.not_lt, -getElem?_pos, -List.getD_eq_getElem?_getD, maxLen]; omega⟩, ?_⟩
  refine WP.loop mixed [] (fun i : Nat => ⟨tl [(0, Is l), (3, .ref (3, 0) l.length), (4, I i)], hl [((3, 0), .row 3 l.length (dl ((cpy l i).map (.int .i64))))], 4⟩) (fun i => i ≤ l.length) (fun i => l.length - i) 0 (by kernel_rfl) ?_ ?_ ?_
  · refine Le.told [] ?_ ?_ ?_ <;> simp [-Bool.exists_bool, -Int.not_le, -Int.not_lt, -getElem?_pos, -List.getD_eq_getElem?_getD, cpy]
  · simp [-Bool.exists_bool, -Int.not_le, -Int.not_lt, -getElem?_pos, -List.getD_eq_getElem?_getD]
  · intro i hi
    by_cases h : i < l.length
    · have h1 : i + 1 ≤ (cpy l i).length := by rw [cpy_len l i hi]; exact h
      simp -implicitDefEqProofs -dsimp +contextual [-Bool.exists_bool, -Int.not_le, -Int.not_lt, -getElem?_pos, -List.getD_eq_getElem?_getD, h, h1]
      refine ⟨i + 1, h, by omega, ?_⟩
      rw [wr (by omega) (by omega)]
      refine Le.told [] ?_ ?_ ?_ <;> simp [-Bool.exists_bool, -Int.not_le, -Int.not_lt, -getElem?_pos, -List.getD_eq_getElem?_getD]
      rw [← cpy_set l i h, List.map_set, List.set_eq_take_append_cons_drop, if_pos (by rw [List.length_map]; exact h1)]
    · obtain rfl : i = l.length := by omega
      simp -implicitDefEqProofs -dsimp +contextual [-Bool.exists_bool, -Int.not_le, -Int.not_lt, -getElem?_pos, -List.getD_eq_getElem?_getD, h]
      refine RLe.told [((0, 0), (3, 0))] ?_ ?_ ?_ <;> simp [-Bool.exists_bool, -Int.not_le, -Int.not_lt, -getElem?_pos, -List.getD_eq_getElem?_getD, cpy_end]
theorem toAtom (a : At) (h : a.1.length ≤ 1048576) : Cn Try.prog 80 [A1 a] (.agg [.ref (0, 0) a.1.length, I a.2.1, B a.2.2]) (hl [((0, 0), .row 3 a.1.length (dl (a.1.map (.int .i64))))]) := by
  refine Cn.of [] mixed Try.func80 rfl Try.call80 (by kernel_rfl) rfl ?_
  simp -implicitDefEqProofs -dsimp +contextual [-Bool.exists_bool, -Int.not_le, -Int.not_lt, -getElem?_pos, -List.getD_eq_getElem?_getD, Try.f80]
  refine CallJ.pure (toIntS a.1 h) rfl (by simp [-Bool.exists_bool, -Int.not_le, -Int.not_lt, -getElem?_pos, -List.getD_eq_getElem?_getD]) ?_
  simp -implicitDefEqProofs -dsimp +contextual [-Bool.exists_bool, -Int.not_le, -Int.not_lt, -getElem?_pos, -List.getD_eq_getElem?_getD]
  refine RLe.told [((0, 0), (5, 0))] ?_ ?_ ?_ <;> simp [-Bool.exists_bool, -Int.not_le, -Int.not_lt, -getElem?_pos, -List.getD_eq_getElem?_getD]
theorem repV_cons (n : Nat) (zc : List V) (hz : 0 < zc.length) : repV (n + 1) zc = zc ++ repV n zc := by
  refine List.ext_getElem? fun i => ?_
  have hm : (n + 1) * zc.length = n * zc.length + zc.length := Nat.succ_mul ..
  by_cases h : i < zc.length
  · rw [List.getElem?_append_left h]
    simp [-Bool.exists_bool, -Int.not_le, -Int.not_lt, -getElem?_pos, -List.getD_eq_getElem?_getD, repV, List.getElem?_range (show i < (n + 1) * zc.length by omega), Nat.mod_eq_of_lt h, List.getD_eq_getElem?_getD, List.getElem?_eq_getElem h]
  · rw [List.getElem?_append_right (by omega)]
    by_cases h2 : i - zc.length < n * zc.length
    · simp [-Bool.exists_bool, -Int.not_le, -Int.not_lt, -getElem?_pos, -List.getD_eq_getElem?_getD, repV, List.getElem?_range h2, List.getElem?_range (show i < (n + 1) * zc.length by omega), Nat.mod_eq_sub_mod (show i ≥ zc.length by omega)]
    · rw [List.getElem?_eq_none (by simp [-Bool.exists_bool, -Int.not_le, -Int.not_lt, -getElem?_pos, -List.getD_eq_getElem?_getD, repV]; omega), List.getElem?_eq_none (by simp [-Bool.exists_bool, -Int.not_le, -Int.not_lt, -getElem?_pos, -List.getD_eq_getElem?_getD, repV]; omega)]
abbrev zA : List V := [.nil, I 0, B false]
theorem rep3_len (n : Nat) : (repV n zA).length = n * 3 := by simp [-Bool.exists_bool, -Int.not_le, -Int.not_lt, -getElem?_pos, -List.getD_eq_getElem?_getD, repV]
theorem zVLes {H : Store} {inv : Key → Key} {nx : Nat} : ∀ n, VLes H inv nx (repV n zA) (repV n zA)
  | 0 => by simp [-Bool.exists_bool, -Int.not_le, -Int.not_lt, -getElem?_pos, -List.getD_eq_getElem?_getD, repV, VLes]
  | n + 1 => by rw [repV_cons _ zA (by simp [-Bool.exists_bool, -Int.not_le, -Int.not_lt, -getElem?_pos, -List.getD_eq_getElem?_getD])]; simp [-Bool.exists_bool, -Int.not_le, -Int.not_lt, -getElem?_pos, -List.getD_eq_getElem?_getD, VLes, VLe, asDz, zVLes n]
theorem toAtomS (L : List At) (h20 : L.length ≤ 1048576) (ha : ∀ a ∈ L, a.1.length ≤ 1048576) : Cn Try.prog 49 [As L] (.ref (0, 0) L.length) (ownR L) := by
  refine Cn.of [] mixed Try.func49 rfl Try.call49 (by kernel_rfl) rfl ?_
  simp -implicitDefEqProofs -dsimp +contextual [-Bool.exists_bool, -Int.not_le, -Int.not_lt, -getElem?_pos, -List.getD_eq_getElem?_getD, Try.f49]
  refine ⟨⟨by omega, by simp [-Bool.exists_bool, -Int.not_le, -Int.not_lt, -getElem?_pos, -List.getD_eq_getElem?_getD, maxLen]; omega⟩, ?_⟩
  refine WP.loop mixed [] (fun i : Nat => ⟨tl [(0, As L), (3, .ref (3, 0) L.length), (4, I i)], famS 2 (ownA (L.take i)) (hl [((3, 0), .row 26 L.length (rA (fun j => (2, j)) 0 (L.take i) ++ repV (L.length - i) zA))]), 4⟩) (fun i => i ≤ L.length) (fun i => L.length - i) 0 (by kernel_rfl) ?_ ?_ ?_
  · refine Le.fam 2 [] (fun _ => (0, 0)) [] ?_ ?_ ?_ ?_ ?_ ?_ <;> simp [-Bool.exists_bool, -Int.not_le, -Int.not_lt, -getElem?_pos, -List.getD_eq_getElem?_getD, invF, rA]
    exact zVLes _
  · simp [-Bool.exists_bool, -Int.not_le, -Int.not_lt, -getElem?_pos, -List.getD_eq_getElem?_getD]
  · intro i hi
    by_cases h : i < L.length
    · have e : L.length - i = (L.length - (i + 1)) + 1 := by omega
      have hT : (L.take i).length = i := by simp [-Bool.exists_bool, -Int.not_le, -Int.not_lt, -getElem?_pos, -List.getD_eq_getElem?_getD]; omega
      rw [e, repV_cons _ zA (by simp [-Bool.exists_bool, -Int.not_le, -Int.not_lt, -getElem?_pos, -List.getD_eq_getElem?_getD])]
      simp -implicitDefEqProofs -dsimp +contextual [-Bool.exists_bool, -Int.not_le, -Int.not_lt, -getElem?_pos, -List.getD_eq_getElem?_getD, h]
      refine CallJ.pure (toAtom (nth L i) (ha _ (nth_mem h))) rfl (by simp [-Bool.exists_bool, -Int.not_le, -Int.not_lt, -getElem?_pos, -List.getD_eq_getElem?_getD]) ?_
      have h2 : (i * 3 + 3 ≤ min i L.length * 3 + ((repV (L.length - (i + 1)) zA).length + 1 + 1 + 1)) = True := by simp [-Bool.exists_bool, -Int.not_le, -Int.not_lt, -getElem?_pos, -List.getD_eq_getElem?_getD]; omega
      have tk : ∀ X : List V, List.take (i * 3) (rA (fun j => (2, j)) 0 (L.take i) ++ X) = rA (fun j => (2, j)) 0 (L.take i) := fun X => List.take_left' (by rw [rA_len, hT])
      have dr : ∀ (a b c : V) (X : List V), List.drop (i * 3 + 3) (rA (fun j => (2, j)) 0 (L.take i) ++ a :: b :: c :: X) = X := fun a b c X => by
        have e3 : i * 3 + 3 - i * 3 = 3 := by omega
        rw [List.drop_append, rA_len, hT, e3, List.drop_of_length_le (by rw [rA_len, hT]; omega)]
        rfl
      simp -implicitDefEqProofs -dsimp +contextual [-Bool.exists_bool, -Int.not_le, -Int.not_lt, -getElem?_pos, -List.getD_eq_getElem?_getD, h, h2, tk, dr]
      refine ⟨i + 1, h, by omega, ?_⟩
      rw [nth_take h, wr (by omega) (by omega)]
      have hT2 : i = (L.take i).length := hT.symm
      refine Le.fam 2 (L.take i ++ [nth L i]) (fPush 2 (L.take i).length (14, 0)) [] ?_ ?_ ?_ ?_ (push_inj (by simp [-Bool.exists_bool, -Int.not_le, -Int.not_lt, -getElem?_pos, -List.getD_eq_getElem?_getD])) ?_
      · simp [-Bool.exists_bool, -Int.not_le, -Int.not_lt, -getElem?_pos, -List.getD_eq_getElem?_getD, invF]
      · simp [-Bool.exists_bool, -Int.not_le, -Int.not_lt, -getElem?_pos, -List.getD_eq_getElem?_getD, setH, ELe]
        have hmn : min i L.length = (L.take i).length := by simp [-Bool.exists_bool, -Int.not_le, -Int.not_lt, -getElem?_pos, -List.getD_eq_getElem?_getD]
        rw [hmn]
        have hv : ∀ H inv, VLes H inv 4 (rA (fun j => (2, j)) 0 (L.take i) ++ [.ref (14, 0) (nth L i).1.length, I (nth L i).2.1, B (nth L i).2.2]) (rA (fun j => (2, j)) 0 (L.take i ++ [nth L i])) → VLes H inv 4 (rA (fun j => (2, j)) 0 (L.take i) ++ .ref (14, 0) (nth L i).1.length :: I (nth L i).2.1 :: B (nth L i).2.2 :: repV (L.length - (i + 1)) zA) (rA (fun j => (2, j)) 0 (L.take i ++ [nth L i]) ++ repV (L.length - (i + 1)) zA) := fun H inv h => by
          have := VLes_app h (zVLes (L.length - (i + 1)))
          rw [List.append_assoc] at this
          exact this
        exact hv _ _ (push_VLes _ _ _ (by simp [-Bool.exists_bool, -Int.not_le, -Int.not_lt, -getElem?_pos, -List.getD_eq_getElem?_getD]))
      · simp [-Bool.exists_bool, -Int.not_le, -Int.not_lt, -getElem?_pos, -List.getD_eq_getElem?_getD]
      · exact push_F (fun j hj => by simp [-Bool.exists_bool, -Int.not_le, -Int.not_lt, -getElem?_pos, -List.getD_eq_getElem?_getD, setH, ownA_lt hj]) (by simp [-Bool.exists_bool, -Int.not_le, -Int.not_lt, -getElem?_pos, -List.getD_eq_getElem?_getD, setH, rowA])
      · intro j hj
        simp [-Bool.exists_bool, -Int.not_le, -Int.not_lt, -getElem?_pos, -List.getD_eq_getElem?_getD, fPush]
        split <;> simp [-Bool.exists_bool, -Int.not_le, -Int.not_lt, -getElem?_pos, -List.getD_eq_getElem?_getD]
    · obtain rfl : i = L.length := by omega
      simp -implicitDefEqProofs -dsimp +contextual [-Bool.exists_bool, -Int.not_le, -Int.not_lt, -getElem?_pos, -List.getD_eq_getElem?_getD, h]
      have e0 : repV 0 zA = [] := rfl
      refine RLe.own (3, 0) (fun j => (2, j)) L ?_ ?_ ?_ ?_ ?_
      · simp [-Bool.exists_bool, -Int.not_le, -Int.not_lt, -getElem?_pos, -List.getD_eq_getElem?_getD, invO]
      · simp [-Bool.exists_bool, -Int.not_le, -Int.not_lt, -getElem?_pos, -List.getD_eq_getElem?_getD, e0]
      · intro j hj; simp [-Bool.exists_bool, -Int.not_le, -Int.not_lt, -getElem?_pos, -List.getD_eq_getElem?_getD, ownA_lt hj]
      · intro i j _ _ h; injection h
      · intro j _; simp [-Bool.exists_bool, -Int.not_le, -Int.not_lt, -getElem?_pos, -List.getD_eq_getElem?_getD]
theorem toCell (c : Ce) (h20 : c.2.length ≤ 1048576) (ha : ∀ a ∈ c.2, a.1.length ≤ 1048576) : Cn Try.prog 16 [.agg (cV c)] (O1 c.1 c.2) (ownR c.2) := by
  refine Cn.of [] mixed Try.func16 rfl Try.call16 (by kernel_rfl) rfl ?_
  simp -implicitDefEqProofs -dsimp +contextual [-Bool.exists_bool, -Int.not_le, -Int.not_lt, -getElem?_pos, -List.getD_eq_getElem?_getD, Try.f16]
  refine CallJ.pure (toAtomS c.2 h20 ha) rfl (by simp [-Bool.exists_bool, -Int.not_le, -Int.not_lt, -getElem?_pos, -List.getD_eq_getElem?_getD]) ?_
  simp -implicitDefEqProofs -dsimp +contextual [-Bool.exists_bool, -Int.not_le, -Int.not_lt, -getElem?_pos, -List.getD_eq_getElem?_getD]
  exact RLe.pass 9 c.2 (by simp [-Bool.exists_bool, -Int.not_le, -Int.not_lt, -getElem?_pos, -List.getD_eq_getElem?_getD, invO]) (by simp [-Bool.exists_bool, -Int.not_le, -Int.not_lt, -getElem?_pos, -List.getD_eq_getElem?_getD, setH]) (fun j hj => by simp [-Bool.exists_bool, -Int.not_le, -Int.not_lt, -getElem?_pos, -List.getD_eq_getElem?_getD, setH, upOwn_j _ _ _ _ hj])
theorem toCellW (c : Ce) (h20 : c.2.length ≤ 1048576) (ha : ∀ a ∈ c.2, a.1.length ≤ 1048576) : Cn Try.prog 16 [.agg (cV c)] (.agg (cV c)) hemp := by
  refine Cn.freeze 2 (toCell c h20 ha) ?_
  simp only [lendT, lendV, List.map_cons, List.map_nil, joinO, own_lend, lendD_d]
theorem zCVLes {H : Store} {inv : Key → Key} {nx : Nat} : ∀ n, VLes H inv nx (repV n [I 0, .nil]) (dl (csD (List.replicate n (0, []))))
  | 0 => by simp [-Bool.exists_bool, -Int.not_le, -Int.not_lt, -getElem?_pos, -List.getD_eq_getElem?_getD, repV, csD, VLes, dl_nil]
  | n + 1 => by
    have e : dl (csD (List.replicate (n + 1) (0, []))) = V.d (.int .i64 0) :: V.d (.sl 0 []) :: dl (csD (List.replicate n (0, []))) := by rw [List.replicate_succ, csD_cons]; rfl
    rw [repV_cons _ _ (by simp [-Bool.exists_bool, -Int.not_le, -Int.not_lt, -getElem?_pos, -List.getD_eq_getElem?_getD]), e]; simp [-Bool.exists_bool, -Int.not_le, -Int.not_lt, -getElem?_pos, -List.getD_eq_getElem?_getD, VLes, VLe, asDz, zCVLes n]
def cpyC (L : List Ce) (i : Nat) : List Ce := L.take i ++ List.replicate (L.length - i) (0, [])
theorem cpyC_len (L : List Ce) (i : Nat) (h : i ≤ L.length) : (cpyC L i).length = L.length := by simp [-Bool.exists_bool, -Int.not_le, -Int.not_lt, -getElem?_pos, -List.getD_eq_getElem?_getD, cpyC]; omega
theorem cpyC_set (L : List Ce) (i : Nat) (h : i < L.length) : (cpyC L i).take i ++ nth L i :: (cpyC L i).drop (i + 1) = cpyC L (i + 1) := by
  have e : L.length - i = (L.length - (i + 1)) + 1 := by omega
  have hm : min i L.length = i := by omega
  unfold cpyC
  rw [e, nth_take h, List.replicate_succ, List.take_append, List.drop_append]
  simp [-Bool.exists_bool, -Int.not_le, -Int.not_lt, -getElem?_pos, -List.getD_eq_getElem?_getD, hm, List.take_take]
theorem toCellS (L : List Ce) (h20 : L.length ≤ 1048576) (hc : ∀ c ∈ L, c.2.length ≤ 1048576 ∧ ∀ a ∈ c.2, a.1.length ≤ 1048576) : Cn Try.prog 63 [Cs L] (Cs L) hemp := by
  refine Cn.of [] mixed Try.func63 rfl Try.call63 (by kernel_rfl) rfl ?_
  simp -implicitDefEqProofs -dsimp +contextual [-Bool.exists_bool, -Int.not_le, -Int.not_lt, -getElem?_pos, -List.getD_eq_getElem?_getD, Try.f63]
  refine ⟨⟨by omega, by simp [-Bool.exists_bool, -Int.not_le, -Int.not_lt, -getElem?_pos, -List.getD_eq_getElem?_getD, maxLen]; omega⟩, ?_⟩
  refine WP.loop mixed [] (fun i : Nat => ⟨tl [(0, Cs L), (3, .ref (3, 0) L.length), (4, I i)], hl [((3, 0), .row 46 L.length (dl (csD (cpyC L i))))], 4⟩) (fun i => i ≤ L.length) (fun i => L.length - i) 0 (by kernel_rfl) ?_ ?_ ?_
  · have e0 : cpyC L 0 = List.replicate L.length (0, []) := by simp [-Bool.exists_bool, -Int.not_le, -Int.not_lt, -getElem?_pos, -List.getD_eq_getElem?_getD, cpyC]
    rw [e0]
    refine Le.told [] ?_ ?_ ?_
    · simp [-Bool.exists_bool, -Int.not_le, -Int.not_lt, -getElem?_pos, -List.getD_eq_getElem?_getD]
    · simp [-Bool.exists_bool, -Int.not_le, -Int.not_lt, -getElem?_pos, -List.getD_eq_getElem?_getD]
      exact zCVLes _
    · simp [-Bool.exists_bool, -Int.not_le, -Int.not_lt, -getElem?_pos, -List.getD_eq_getElem?_getD]
  · simp [-Bool.exists_bool, -Int.not_le, -Int.not_lt, -getElem?_pos, -List.getD_eq_getElem?_getD]
  · intro i hi
    by_cases h : i < L.length
    · have hl2 := cpyC_len L i hi
      have h2 : (i * 2 + 2 ≤ (cpyC L i).length * 2) = True := by simp [-Bool.exists_bool, -Int.not_le, -Int.not_lt, -getElem?_pos, -List.getD_eq_getElem?_getD]; omega
      simp -implicitDefEqProofs -dsimp +contextual [-Bool.exists_bool, -Int.not_le, -Int.not_lt, -getElem?_pos, -List.getD_eq_getElem?_getD, h]
      refine CallJ.pure (toCellW (nth L i) (hc _ (nth_mem h)).1 (hc _ (nth_mem h)).2) rfl (by simp [-Bool.exists_bool, -Int.not_le, -Int.not_lt, -getElem?_pos, -List.getD_eq_getElem?_getD]) ?_
      simp -implicitDefEqProofs -dsimp +contextual [-Bool.exists_bool, -Int.not_le, -Int.not_lt, -getElem?_pos, -List.getD_eq_getElem?_getD, h, h2]
      refine ⟨i + 1, h, by omega, ?_⟩
      rw [wr (by omega) (by omega)]
      refine Le.told [] ?_ ?_ ?_ <;> simp [-Bool.exists_bool, -Int.not_le, -Int.not_lt, -getElem?_pos, -List.getD_eq_getElem?_getD]
      rw [csD_drop2, ← cpyC_set L i h, csD_append, csD_cons]
      rfl
    · obtain rfl : i = L.length := by omega
      simp -implicitDefEqProofs -dsimp +contextual [-Bool.exists_bool, -Int.not_le, -Int.not_lt, -getElem?_pos, -List.getD_eq_getElem?_getD, h]
      refine RLe.pure 2 ?_
      simp [-Bool.exists_bool, -Int.not_le, -Int.not_lt, -getElem?_pos, -List.getD_eq_getElem?_getD, cpyC]
theorem toRegion (d : Int) (L : List Ce) (h20 : L.length ≤ 1048576) (hc : ∀ c ∈ L, c.2.length ≤ 1048576 ∧ ∀ a ∈ c.2, a.1.length ≤ 1048576) : Cn Try.prog 30 [R1 d L] (R1 d L) hemp := by
  refine Cn.of [] mixed Try.func30 rfl Try.call30 (by kernel_rfl) rfl ?_
  simp -implicitDefEqProofs -dsimp +contextual [-Bool.exists_bool, -Int.not_le, -Int.not_lt, -getElem?_pos, -List.getD_eq_getElem?_getD, Try.f30]
  refine CallJ.pure (toCellS L h20 hc) rfl (by simp [-Bool.exists_bool, -Int.not_le, -Int.not_lt, -getElem?_pos, -List.getD_eq_getElem?_getD]) ?_
  simp -implicitDefEqProofs -dsimp +contextual [-Bool.exists_bool, -Int.not_le, -Int.not_lt, -getElem?_pos, -List.getD_eq_getElem?_getD]
  exact RLe.pure 2 (by simp [-Bool.exists_bool, -Int.not_le, -Int.not_lt, -getElem?_pos, -List.getD_eq_getElem?_getD])
end Go.Proofs.Ytohoibekddhneaa.ZL
namespace Go.Proofs.Ytohoibekddhneaa.ZL
open Go Go.Proofs.Ytohoibekddhneaa.Abs Go.Proofs.Ytohoibekddhneaa.Abs.Pl Go.RowKit Go.Proofs
set_option linter.unusedVariables false
set_option linter.unusedSimpArgs false
theorem eqIntS (L : List Int) (h20 : L.length ≤ 1048576) : Cn Try.prog 18 [Is L, Is L] (B true) hemp := by
  refine Cn.of [] mixed Try.func18 rfl Try.call18 (by kernel_rfl) rfl ?_
  simp -implicitDefEqProofs -dsimp +contextual [-Bool.exists_bool, -Int.not_le, -Int.not_lt, -getElem?_pos, -List.getD_eq_getElem?_getD, Try.f18]
  refine WP.loop mixed [] (fun i : Nat => ⟨tl [(0, Is L), (1, Is L), (5, I i)], hl [], 1⟩) (fun i => i ≤ L.length) (fun i => L.length - i) 0 (by kernel_rfl) ?_ ?_ ?_
  · refine Le.told [] ?_ ?_ ?_ <;> simp [-Bool.exists_bool, -Int.not_le, -Int.not_lt, -getElem?_pos, -List.getD_eq_getElem?_getD]
  · simp [-Bool.exists_bool, -Int.not_le, -Int.not_lt, -getElem?_pos, -List.getD_eq_getElem?_getD]
  · intro i hi
    simp -implicitDefEqProofs -dsimp +contextual [-Bool.exists_bool, -Int.not_le, -Int.not_lt, -getElem?_pos, -List.getD_eq_getElem?_getD]
    refine ⟨fun h => ?_, fun h => RLe.bb rfl⟩
    refine ⟨i + 1, h, by omega, ?_⟩
    rw [wr (by omega) (by omega)]
    refine Le.told [] ?_ ?_ ?_ <;> simp [-Bool.exists_bool, -Int.not_le, -Int.not_lt, -getElem?_pos, -List.getD_eq_getElem?_getD]
theorem eqAtom (a : At) (h : a.1.length ≤ 1048576) : Cn Try.prog 82 [A1 a, A1 a] (B true) hemp := by
  refine Cn.of [] mixed Try.func82 rfl Try.call82 (by kernel_rfl) rfl ?_
  simp -implicitDefEqProofs -dsimp +contextual [-Bool.exists_bool, -Int.not_le, -Int.not_lt, -getElem?_pos, -List.getD_eq_getElem?_getD, Try.f82]
  refine CallJ.pure (eqIntS a.1 h) rfl (by simp [-Bool.exists_bool, -Int.not_le, -Int.not_lt, -getElem?_pos, -List.getD_eq_getElem?_getD]) ?_
  simp -implicitDefEqProofs -dsimp +contextual [-Bool.exists_bool, -Int.not_le, -Int.not_lt, -getElem?_pos, -List.getD_eq_getElem?_getD]
  exact RLe.bb rfl
theorem eqAtomS (L : List At) (h20 : L.length ≤ 1048576) (ha : ∀ a ∈ L, a.1.length ≤ 1048576) : Cn Try.prog 54 [As L, As L] (B true) hemp := by
  refine Cn.of [] mixed Try.func54 rfl Try.call54 (by kernel_rfl) rfl ?_
  simp -implicitDefEqProofs -dsimp +contextual [-Bool.exists_bool, -Int.not_le, -Int.not_lt, -getElem?_pos, -List.getD_eq_getElem?_getD, Try.f54]
  refine WP.loop mixed [] (fun i : Nat => ⟨tl [(0, As L), (1, As L), (5, I i)], hl [], 1⟩) (fun i => i ≤ L.length) (fun i => L.length - i) 0 (by kernel_rfl) ?_ ?_ ?_
  · refine Le.told [] ?_ ?_ ?_ <;> simp [-Bool.exists_bool, -Int.not_le, -Int.not_lt, -getElem?_pos, -List.getD_eq_getElem?_getD]
  · simp [-Bool.exists_bool, -Int.not_le, -Int.not_lt, -getElem?_pos, -List.getD_eq_getElem?_getD]
  · intro i hi
    simp -implicitDefEqProofs -dsimp +contextual [-Bool.exists_bool, -Int.not_le, -Int.not_lt, -getElem?_pos, -List.getD_eq_getElem?_getD]
    refine ⟨fun h => ?_, fun h => RLe.bb rfl⟩
    refine CallJ.pure (eqAtom (nth L i) (ha _ (nth_mem h))) rfl (by simp [-Bool.exists_bool, -Int.not_le, -Int.not_lt, -getElem?_pos, -List.getD_eq_getElem?_getD]) ?_
    simp -implicitDefEqProofs -dsimp +contextual [-Bool.exists_bool, -Int.not_le, -Int.not_lt, -getElem?_pos, -List.getD_eq_getElem?_getD, h]
    refine ⟨i + 1, h, by omega, ?_⟩
    rw [wr (by omega) (by omega)]
    refine Le.told [] ?_ ?_ ?_ <;> simp [-Bool.exists_bool, -Int.not_le, -Int.not_lt, -getElem?_pos, -List.getD_eq_getElem?_getD]
theorem eqCell (c : Ce) (h20 : c.2.length ≤ 1048576) (ha : ∀ a ∈ c.2, a.1.length ≤ 1048576) : Cn Try.prog 19 [.agg (cV c), .agg (cV c)] (B true) hemp := by
  refine Cn.of [] mixed Try.func19 rfl Try.call19 (by kernel_rfl) rfl ?_
  simp -implicitDefEqProofs -dsimp +contextual [-Bool.exists_bool, -Int.not_le, -Int.not_lt, -getElem?_pos, -List.getD_eq_getElem?_getD, Try.f19]
  refine CallJ.pure (eqAtomS c.2 h20 ha) rfl (by simp [-Bool.exists_bool, -Int.not_le, -Int.not_lt, -getElem?_pos, -List.getD_eq_getElem?_getD]) ?_
  simp -implicitDefEqProofs -dsimp +contextual [-Bool.exists_bool, -Int.not_le, -Int.not_lt, -getElem?_pos, -List.getD_eq_getElem?_getD]
  exact RLe.bb rfl
theorem eqCellS (L : List Ce) (h20 : L.length ≤ 1048576) (hc : ∀ c ∈ L, c.2.length ≤ 1048576 ∧ ∀ a ∈ c.2, a.1.length ≤ 1048576) : Cn Try.prog 65 [Cs L, Cs L] (B true) hemp := by
  refine Cn.of [] mixed Try.func65 rfl Try.call65 (by kernel_rfl) rfl ?_
  simp -implicitDefEqProofs -dsimp +contextual [-Bool.exists_bool, -Int.not_le, -Int.not_lt, -getElem?_pos, -List.getD_eq_getElem?_getD, Try.f65]
  refine WP.loop mixed [] (fun i : Nat => ⟨tl [(0, Cs L), (1, Cs L), (5, I i)], hl [], 1⟩) (fun i => i ≤ L.length) (fun i => L.length - i) 0 (by kernel_rfl) ?_ ?_ ?_
  · refine Le.told [] ?_ ?_ ?_ <;> simp [-Bool.exists_bool, -Int.not_le, -Int.not_lt, -getElem?_pos, -List.getD_eq_getElem?_getD]
  · simp [-Bool.exists_bool, -Int.not_le, -Int.not_lt, -getElem?_pos, -List.getD_eq_getElem?_getD]
  · intro i hi
    simp -implicitDefEqProofs -dsimp +contextual [-Bool.exists_bool, -Int.not_le, -Int.not_lt, -getElem?_pos, -List.getD_eq_getElem?_getD]
    refine ⟨fun h => ?_, fun h => RLe.bb rfl⟩
    refine CallJ.pure (eqCell (nth L i) (hc _ (nth_mem h)).1 (hc _ (nth_mem h)).2) rfl (by simp [-Bool.exists_bool, -Int.not_le, -Int.not_lt, -getElem?_pos, -List.getD_eq_getElem?_getD]) ?_
    simp -implicitDefEqProofs -dsimp +contextual [-Bool.exists_bool, -Int.not_le, -Int.not_lt, -getElem?_pos, -List.getD_eq_getElem?_getD, h]
    refine ⟨i + 1, h, by omega, ?_⟩
    rw [wr (by omega) (by omega)]
    refine Le.told [] ?_ ?_ ?_ <;> simp [-Bool.exists_bool, -Int.not_le, -Int.not_lt, -getElem?_pos, -List.getD_eq_getElem?_getD]
theorem eqRegion (d : Int) (L : List Ce) (h20 : L.length ≤ 1048576) (hc : ∀ c ∈ L, c.2.length ≤ 1048576 ∧ ∀ a ∈ c.2, a.1.length ≤ 1048576) : Cn Try.prog 32 [R1 d L, R1 d L] (B true) hemp := by
  refine Cn.of [] mixed Try.func32 rfl Try.call32 (by kernel_rfl) rfl ?_
  simp -implicitDefEqProofs -dsimp +contextual [-Bool.exists_bool, -Int.not_le, -Int.not_lt, -getElem?_pos, -List.getD_eq_getElem?_getD, Try.f32]
  refine CallJ.pure (eqCellS L h20 hc) rfl (by simp [-Bool.exists_bool, -Int.not_le, -Int.not_lt, -getElem?_pos, -List.getD_eq_getElem?_getD]) ?_
  simp -implicitDefEqProofs -dsimp +contextual [-Bool.exists_bool, -Int.not_le, -Int.not_lt, -getElem?_pos, -List.getD_eq_getElem?_getD]
  exact RLe.bb rfl
theorem wS_le {α : Type} {w : α → Nat} : ∀ {L : List α} {a : α}, a ∈ L → w a ≤ wS w L
  | b :: L, a, h => by
    rcases List.mem_cons.1 h with rfl | h
    · simp [-Bool.exists_bool, -Int.not_le, -Int.not_lt, -getElem?_pos, -List.getD_eq_getElem?_getD, wS]
    · have := wS_le (w := w) h; simp [-Bool.exists_bool, -Int.not_le, -Int.not_lt, -getElem?_pos, -List.getD_eq_getElem?_getD, wS]; omega
theorem wAs_small {L : List At} (h : wAs L ≤ 1048576) : L.length ≤ 1048576 ∧ ∀ a ∈ L, a.1.length ≤ 1048576 := by
  unfold wAs at h
  exact ⟨by omega, fun a ha => by have := wS_le (w := wA) ha; unfold wA at this h; omega⟩
theorem wCs_small {L : List Ce} (h : wCs L ≤ 1048576) : L.length ≤ 1048576 ∧ ∀ c ∈ L, c.2.length ≤ 1048576 ∧ ∀ a ∈ c.2, a.1.length ≤ 1048576 := by
  unfold wCs at h
  exact ⟨by omega, fun c hc => wAs_small (by have := wS_le (w := wC) hc; unfold wC at this h; omega)⟩
theorem lft_le {n : Nat} (h : ¬ lft 1048576 n < 0) : n ≤ 1048576 := by
  unfold lft at h
  split at h <;> omega
theorem ok20 : okL 1048576 := ⟨by omega, by omega⟩
end Go.Proofs.Ytohoibekddhneaa.ZL
