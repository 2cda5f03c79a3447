/- Texts of the abs road (plain values, what code does to them, and the contracts of the functions that the law reaches). No condition. -/
import Derived.Test.YtjknjekemolndaaG6FnWitness
import Derived.Shelf.SlSortCmp.WholeK
import Derived.Shelf.SlSortCmp.NoneTotal
import Derived.Test.YtjknjekemolndaaProg
namespace Go.Proofs
open Go.Shelf
def Try.sortL_ren : Go.Shelf.Ren := ⟨fun | 6 => 62 | 15 => 76 | 14 => 75 | 28 => 89 | 29 => 90 | 20 => 81 | 21 => 82 | 22 => 83 | 23 => 84 | 24 => 85 | 25 => 86 | 26 => 87 | 27 => 88 | 46 => 91 | 47 => 92 | 48 => 93 | 49 => 94 | 50 => 95 | 57 => 96 | n => n, fun | 22 => 24 | 24 => 51 | 25 => 100 | 3 => 3 | 39 => 109 | 0 => 0 | 53 => 120 | 55 => 122 | 4 => 4 | 46 => 113 | 45 => 112 | 50 => 117 | 5 => 5 | 9 => 9 | 66 => 123 | 70 => 127 | 76 => 129 | 77 => 130 | n => n, fun | n => n⟩
theorem Try.sortL : Go.Proofs.SlLaysF0.n6 Try.prog Try.sortL_ren := {
  mixed := by kernel_rfl
  f6 := ⟨Try.f62.name, by decide, Try.func62.trans (congrArg some (by kernel_rfl))⟩
  f14 := ⟨Try.f75.name, by decide, Try.func75.trans (congrArg some (by kernel_rfl))⟩
  f15 := Try.func76.trans (congrArg some (by kernel_rfl))
  f20 := ⟨Try.f81.name, by decide, Try.func81.trans (congrArg some (by kernel_rfl))⟩
  f21 := ⟨Try.f82.name, by decide, Try.func82.trans (congrArg some (by kernel_rfl))⟩
  f22 := ⟨Try.f83.name, by decide, Try.func83.trans (congrArg some (by kernel_rfl))⟩
  f23 := ⟨Try.f84.name, by decide, Try.func84.trans (congrArg some (by kernel_rfl))⟩
  f24 := ⟨Try.f85.name, by decide, Try.func85.trans (congrArg some (by kernel_rfl))⟩
  f25 := ⟨Try.f86.name, by decide, Try.func86.trans (congrArg some (by kernel_rfl))⟩
  f26 := ⟨Try.f87.name, by decide, Try.func87.trans (congrArg some (by kernel_rfl))⟩
  f27 := ⟨Try.f88.name, by decide, Try.func88.trans (congrArg some (by kernel_rfl))⟩
  f28 := Try.func89.trans (congrArg some (by kernel_rfl))
  f29 := Try.func90.trans (congrArg some (by kernel_rfl))
  f46 := ⟨Try.f91.name, by decide, Try.func91.trans (congrArg some (by kernel_rfl))⟩
  f47 := Try.func92.trans (congrArg some (by kernel_rfl))
  f48 := Try.func93.trans (congrArg some (by kernel_rfl))
  f49 := ⟨Try.f94.name, by decide, Try.func94.trans (congrArg some (by kernel_rfl))⟩
  f50 := ⟨Try.f95.name, by decide, Try.func95.trans (congrArg some (by kernel_rfl))⟩
  f57 := ⟨Try.f96.name, by decide, Try.func96.trans (congrArg some (by kernel_rfl))⟩
  t0 := Try.underlying0
  a0 := Try.isAgg0
  z0 := Try.sizeOf0
  v0 := Try.zeroValue0
  t3 := Try.underlying3
  a3 := Try.isAgg3
  z3 := Try.sizeOf3
  v3 := Try.zeroValue3
  t4 := Try.underlying4
  a4 := Try.isAgg4
  z4 := Try.sizeOf4
  v4 := Try.zeroValue4
  t5 := Try.underlying5
  a5 := Try.isAgg5
  z5 := Try.sizeOf5
  v5 := Try.zeroValue5
  t9 := Try.underlying9
  a9 := Try.isAgg9
  z9 := Try.sizeOf9
  v9 := Try.zeroValue9
  t22 := Try.underlying24
  a22 := Try.isAgg24
  z22 := Try.sizeOf24
  v22 := Try.zeroValue24
  t25 := Try.underlying100
  a25 := Try.isAgg100
  z25 := Try.sizeOf100
  v25 := Try.zeroValue100
  t39 := Try.underlying109
  a39 := Try.isAgg109
  z39 := Try.sizeOf109
  v39 := Try.zeroValue109
  t45 := Try.underlying112
  a45 := Try.isAgg112
  z45 := Try.sizeOf112
  v45 := Try.zeroValue112
  t46 := Try.underlying113
  a46 := Try.isAgg113
  z46 := Try.sizeOf113
  v46 := Try.zeroValue113
  t50 := Try.underlying117
  a50 := Try.isAgg117
  z50 := Try.sizeOf117
  v50 := Try.zeroValue117
  t53 := Try.underlying120
  a53 := Try.isAgg120
  z53 := Try.sizeOf120
  v53 := Try.zeroValue120
  t55 := Try.underlying122
  a55 := Try.isAgg122
  z55 := Try.sizeOf122
  v55 := Try.zeroValue122
  t66 := Try.underlying123
  a66 := Try.isAgg123
  z66 := Try.sizeOf123
  v66 := Try.zeroValue123
  t70 := Try.underlying127
  a70 := Try.isAgg127
  z70 := Try.sizeOf127
  v70 := Try.zeroValue127
  t76 := Try.underlying129
  a76 := Try.isAgg129
  z76 := Try.sizeOf129
  v76 := Try.zeroValue129
  t77 := Try.underlying130
  a77 := Try.isAgg130
  z77 := Try.sizeOf130
  v77 := Try.zeroValue130 }
end Go.Proofs
namespace Go.Proofs.Ytjknjekemolndaa.ZL
open Go Go.Proofs.Ytjknjekemolndaa.Abs Go.Proofs.Ytjknjekemolndaa.Abs.Pl Go.RowKit Go.Proofs
set_option linter.unusedVariables false
set_option linter.unusedSimpArgs false
def isIns {α : Type} (c : α → α → Int) (a : α) : List α → List α
  | [] => [a]
  | b :: l => if c a b ≤ 0 then a :: b :: l else b :: isIns c a l
def isort {α : Type} (c : α → α → Int) : List α → List α
  | [] => []
  | a :: l => isIns c a (isort c l)
theorem isIns_perm {α : Type} (c : α → α → Int) (a : α) : ∀ l, (isIns c a l).Perm (a :: l)
  | [] => List.Perm.refl _
  | b :: l => by
    unfold isIns
    split
    · exact List.Perm.refl _
    · exact ((isIns_perm c a l).cons b).trans (List.Perm.swap a b l)
theorem isort_perm {α : Type} (c : α → α → Int) : ∀ l, (isort c l).Perm l
  | [] => List.Perm.refl _
  | a :: l => (isIns_perm c a _).trans ((isort_perm c l).cons a)
theorem isIns_sorted {α : Type} (c : α → α → Int) (a : α) : ∀ l : List α, (∀ x ∈ a :: l, ∀ y ∈ a :: l, c y x = - c x y) → (∀ x ∈ a :: l, ∀ y ∈ a :: l, ∀ z ∈ a :: l, c x y ≤ 0 → c y z ≤ 0 → c x z ≤ 0) → l.Pairwise (fun x y => c x y ≤ 0) → (isIns c a l).Pairwise (fun x y => c x y ≤ 0)
  | [], _, _, _ => by simp [isIns]
  | b :: l, hf, ht, h => by
    obtain ⟨h1, h2⟩ := List.pairwise_cons.1 h
    unfold isIns
    split
    · rename_i hab
      refine List.pairwise_cons.2 ⟨fun x hx => ?_, h⟩
      rcases List.mem_cons.1 hx with e | hx'
      · rw [e]; exact hab
      · exact ht a (by simp) b (by simp) x (by simp [hx']) hab (h1 x hx')
    · rename_i hab
      refine List.pairwise_cons.2 ⟨fun x hx => ?_, isIns_sorted c a l (fun x hx y hy => hf x (by simp at hx ⊢; rcases hx with e | e <;> simp [e]) y (by simp at hy ⊢; rcases hy with e | e <;> simp [e])) (fun x hx y hy z hz => ht x (by simp at hx ⊢; rcases hx with e | e <;> simp [e]) y (by simp at hy ⊢; rcases hy with e | e <;> simp [e]) z (by simp at hz ⊢; rcases hz with e | e <;> simp [e])) h2⟩
      rcases List.mem_cons.1 ((isIns_perm c a l).mem_iff.1 hx) with e | hx'
      · rw [e, hf a (by simp) b (by simp)]; omega
      · exact h1 x hx'
theorem isort_sorted {α : Type} (c : α → α → Int) : ∀ l : List α, (∀ x ∈ l, ∀ y ∈ l, c y x = - c x y) → (∀ x ∈ l, ∀ y ∈ l, ∀ z ∈ l, c x y ≤ 0 → c y z ≤ 0 → c x z ≤ 0) → (isort c l).Pairwise (fun x y => c x y ≤ 0)
  | [], _, _ => by simp [isort]
  | a :: l, hf, ht => by
    have hm : ∀ x, x ∈ a :: isort c l → x ∈ a :: l := fun x hx => by
      rcases List.mem_cons.1 hx with e | hx'
      · simp [e]
      · simp [(isort_perm c l).mem_iff.1 hx']
    exact isIns_sorted c a (isort c l) (fun x hx y hy => hf x (hm x hx) y (hm y hy)) (fun x hx y hy z hz => ht x (hm x hx) y (hm y hy) z (hm z hz))
      (isort_sorted c l (fun x hx y hy => hf x (by simp [hx]) y (by simp [hy])) (fun x hx y hy z hz => ht x (by simp [hx]) y (by simp [hy]) z (by simp [hz])))
theorem isIns_congr {α : Type} (c d : α → α → Int) (a : α) : ∀ l : List α, (∀ x ∈ l, c a x = d a x) → isIns c a l = isIns d a l
  | [], _ => rfl
  | b :: l, h => by
    unfold isIns
    rw [h b (by simp), isIns_congr c d a l (fun x hx => h x (by simp [hx]))]
theorem isort_congr {α : Type} (c d : α → α → Int) : ∀ l : List α, (∀ x ∈ l, ∀ y ∈ l, c x y = d x y) → isort c l = isort d l
  | [], _ => rfl
  | a :: l, h => by
    unfold isort
    rw [isort_congr c d l (fun x hx y hy => h x (by simp [hx]) y (by simp [hy]))]
    exact isIns_congr c d a _ (fun x hx => h a (by simp) x (by simp [(isort_perm d l).mem_iff.1 hx]))
theorem sorted_same {α : Type} (c : α → α → Int) : ∀ R S : List α, (∀ x ∈ R, ∀ y ∈ R, c y x = - c x y) → (∀ x ∈ R, ∀ y ∈ R, c x y = 0 → x = y) → R.Perm S → R.Pairwise (fun x y => c x y ≤ 0) → S.Pairwise (fun x y => c x y ≤ 0) → R = S
  | [], S, _, _, hp, _, _ => (List.Perm.nil_eq hp)
  | a :: R, [], _, _, hp, _, _ => by have := hp.length_eq; simp at this
  | a :: R, b :: S, hf, he, hp, h1, h2 => by
    obtain ⟨a1, a2⟩ := List.pairwise_cons.1 h1
    obtain ⟨b1, b2⟩ := List.pairwise_cons.1 h2
    have hb : b ∈ a :: R := hp.mem_iff.2 (by simp)
    have e : a = b := by
      rcases List.mem_cons.1 hb with e | hb'
      · exact e.symm
      · rcases List.mem_cons.1 (hp.mem_iff.1 (List.mem_cons_self : a ∈ a :: R)) with e | ha'
        · exact e
        · have k1 := a1 b hb'
          have k2 := b1 a ha'
          have k3 := hf a (by simp) b hb
          exact he a (by simp) b hb (by omega)
    subst e
    rw [sorted_same c R S (fun x hx y hy => hf x (by simp [hx]) y (by simp [hy])) (fun x hx y hy => he x (by simp [hx]) y (by simp [hy])) (List.Perm.cons_inv hp) a2 b2]
theorem sortW_heap {α : Type} [Inhabited α] (enc : α → List Value) (sz : Nat) (w : World) (g off m : Nat) (d : Array α) (os : Array Obj) (k : Nat) (hk : k < w.heap.size) (hne : k ≠ g) : (Go.Proofs.sortWorldK enc sz w g off m d os).heap[k]? = w.heap[k]? := by
  unfold Go.Proofs.sortWorldK Go.Sort.putRowK Go.Sort.putRow Go.Sort.mapBlock Go.Sort.ahead Go.Sort.grow
  simp only []
  rw [Array.getElem?_append_left (by simpa using hk), Array.getElem?_modify, if_neg (fun e => hne e.symm)]
theorem sortW_row {α : Type} [Inhabited α] (enc : α → List Value) (sz : Nat) (w : World) (g m : Nat) (d : Array α) (os : Array Obj) (cur : Array Value) (e : TypeId) (h : w.heap[g]? = some (.cells cur e (0, 0))) :
    (Go.Proofs.sortWorldK enc sz w g 0 m d os).heap[g]? = some (.cells (Go.Sort.putCells id 0 (Go.Sort.flatK enc sz d) cur) e (0, 0)) := by
  have hk : g < w.heap.size := (Array.getElem?_eq_some_iff.1 h).1
  unfold Go.Proofs.sortWorldK Go.Sort.putRowK Go.Sort.putRow Go.Sort.mapBlock Go.Sort.ahead Go.Sort.grow
  simp only []
  rw [Array.getElem?_append_left (by simpa using hk), Array.getElem?_modify, if_pos rfl, h]
  rfl
theorem grow_of_chg {w W : World} (h : Chg (fun _ => False) w W) : ∃ q os, W = Go.Sort.grow (w.drewN q) os := by
  obtain ⟨n, hn⟩ : ∃ n, W.drawn = w.drawn + n := ⟨W.drawn - w.drawn, by have := h.drawn; omega⟩
  refine ⟨n, W.heap.extract w.heap.size W.heap.size, ?_⟩
  have h1 := h.os
  have h2 := h.tape
  have h3 := h.output
  have hh : W.heap = w.heap ++ W.heap.extract w.heap.size W.heap.size := by
    apply Array.ext_getElem?
    intro i
    by_cases hi : i < w.heap.size
    · rw [Array.getElem?_append_left hi]; exact h.block i (fun h => h) hi
    · rw [Array.getElem?_append_right (by omega), Array.getElem?_extract]
      have := h.size
      by_cases hi2 : i < W.heap.size
      · rw [if_pos (by omega)]; congr 1; omega
      · rw [if_neg (by omega), Array.getElem?_eq_none (by omega)]
  cases W
  cases w
  simp only [Go.Sort.grow, World.drewN] at *
  subst h1 h2 h3 hn
  rw [← hh]
theorem sortW_drawn {α : Type} [Inhabited α] (enc : α → List Value) (sz : Nat) (w : World) (g off m : Nat) (d : Array α) (os : Array Obj) : w.drawn ≤ (Go.Proofs.sortWorldK enc sz w g off m d os).drawn := by
  unfold Go.Proofs.sortWorldK Go.Sort.putRowK Go.Sort.putRow Go.Sort.mapBlock Go.Sort.ahead Go.Sort.grow
  exact Nat.le_add_right _ _
theorem blkC {w : World} {g : Nat} {t : TypeId} {cs : Array Value} (h : w.heap[g]? = some (.cells cs t (0, 0))) (i : Nat) : w.cell? ⟨g, i, none⟩ = cs[i]? := by
  cases hq : cs[i]? with
  | none => simp only [World.cell?, h]; simp [hq]
  | some v => have := rangeAt_row h i v (by simpa using hq); simpa using this
theorem blkF {w : World} {g : Nat} {t : TypeId} {cs : Array Value} (h : w.heap[g]? = some (.cells cs t (0, 0))) (i : Nat) : w.frozen? ⟨g, i, none⟩ = false := by simp [World.frozen?, h]
theorem nth_succ {α : Type} [Inhabited α] (a : α) (l : List α) (i : Nat) : nth (a :: l) (i + 1) = nth l i := rfl
theorem rA_cells {M : Key → Option Value} {F : Nat → Prop} {w : World} {f : Nat → Key} : ∀ {L : List At} {j : Nat} {xs : List Value}, DenVs M F w (rA f j L) xs → ∀ i, i < L.length → ∃ u, M (f (j + i)) = some u ∧ (xs.drop (i * 3)).take 3 = [u, .int .i64 (nth L i).2.1, .bool (nth L i).2.2]
  | [], j, xs, h, i, hi => absurd hi (by simp)
  | a :: L, j, xs, h, i, hi => by
    unfold rA at h
    unfold DenVs at h
    obtain ⟨u, r, rfl, hu, h⟩ := h
    unfold DenVs at h
    obtain ⟨u1, r1, rfl, hu1, h⟩ := h
    unfold DenVs at h
    obtain ⟨u2, r2, rfl, hu2, h⟩ := h
    cases i with
    | zero =>
      unfold DenV at hu
      refine ⟨u, by rw [Nat.add_zero]; exact hu.1, ?_⟩
      rw [hu1.int, hu2.bool]
      rfl
    | succ i =>
      obtain ⟨v, h1, h2⟩ := rA_cells h i (by simpa using hi)
      refine ⟨v, by rw [show j + (i + 1) = j + 1 + i by omega]; exact h1, ?_⟩
      rw [show (i + 1) * 3 = i * 3 + 3 by omega]
      simpa [nth_succ] using h2
theorem rA_den {M : Key → Option Value} {F : Nat → Prop} {w : World} {f : Nat → Key} : ∀ {L : List At} {j : Nat} {xs : List Value}, xs.length = L.length * 3 → (∀ i, i < L.length → ∃ u A cap, M (f (j + i)) = some u ∧ u = .slice A (nth L i).1.length cap ∧ ((nth L i).1.length = 0 ∨ ∃ b o, A = some ⟨b, o, none⟩) ∧ (xs.drop (i * 3)).take 3 = [u, .int .i64 (nth L i).2.1, .bool (nth L i).2.2]) → DenVs M F w (rA f j L) xs
  | [], j, xs, hl, h => by
    obtain rfl := List.eq_nil_of_length_eq_zero (by simpa using hl)
    unfold rA; exact DenVs.nil
  | a :: L, j, xs, hl, h => by
    obtain ⟨u, A, cap, h1, h2, h3, h4⟩ := h 0 (by simp)
    rw [Nat.zero_mul, List.drop_zero] at h4
    obtain ⟨r, rfl⟩ : ∃ r, xs = u :: .int .i64 a.2.1 :: .bool a.2.2 :: r := by
      match xs, hl, h4 with
      | x :: y :: z :: r, _, h4 =>
        simp only [List.take_succ_cons, List.take_zero, List.cons.injEq, and_true] at h4
        obtain ⟨rfl, rfl, rfl⟩ := h4
        exact ⟨r, rfl⟩
      | [], hl, _ => simp at hl
      | [x], hl, _ => simp at hl; omega
      | [x, y], hl, _ => simp at hl; omega
    unfold rA
    refine DenVs.cons (by unfold DenV; exact ⟨h1, A, cap, h2, h3⟩) (DenVs.cons (by unfold DenV DenD; rfl) (DenVs.cons (by unfold DenV DenD; rfl) (rA_den (by simp at hl; omega) fun i hi => ?_)))
    obtain ⟨u', A', cap', k1, k2, k3, k4⟩ := h (i + 1) (by simp; omega)
    refine ⟨u', A', cap', by rw [show j + 1 + i = j + (i + 1) by omega]; exact k1, k2, k3, ?_⟩
    rw [show (i + 1) * 3 = i * 3 + 3 by omega] at k4
    simpa [nth_succ] using k4
def sortUp (k : Key) (fs n s : Nat) (S : List At) : Key → Option (Option Ent) := fun k' => if k' = k then some (some (.row 51 S.length (rA (fun j => (s, j)) 0 S)))
  else if k'.1 = s then (match ownA S k'.2 with | some e => some (some e) | none => none) else if k'.1 = fs ∧ k'.2 < n then some none else none
structure SortFine (cmp : At → At → Int) (L : List At) : Prop where
  len : L.length ≤ 1000000000
  call : ∀ a ∈ L, ∀ b ∈ L, Cn Try.prog 63 [A1 a, A1 b] (I (cmp a b)) hemp
  flip : ∀ a ∈ L, ∀ b ∈ L, cmp b a = - cmp a b
  same : ∀ a ∈ L, ∀ b ∈ L, cmp a b = 0 → a = b
  trans : ∀ a ∈ L, ∀ b ∈ L, ∀ c ∈ L, cmp a b ≤ 0 → cmp b c ≤ 0 → cmp a c ≤ 0
open Go.Sort in
theorem SWO_of {β : Type} {cmp : At → At → Int} {L : List At} (hc : SortFine cmp L) (g : β → At) (hg : ∀ x, g x ∈ L) : SWO (Go.Proofs.ltOf fun x y => cmp (g x) (g y)) := by
  have hlt : ∀ x y : β, Go.Proofs.ltOf (fun x y => cmp (g x) (g y)) x y = decide (cmp (g x) (g y) < 0) := fun x y => rfl
  refine ⟨fun x => ?_, fun x y z h1 h2 => ?_, fun x y z h1 h2 => ?_⟩
  · rw [hlt]; have := hc.flip _ (hg x) _ (hg x); simp; omega
  · rw [hlt] at *
    simp at h1 h2 ⊢
    have k1 := hc.trans _ (hg x) _ (hg y) _ (hg z) (by omega) (by omega)
    have f1 := hc.flip _ (hg x) _ (hg z)
    by_cases h3 : cmp (g x) (g z) = 0
    · have k2 := hc.trans _ (hg z) _ (hg x) _ (hg y) (by omega) (by omega)
      have f2 := hc.flip _ (hg z) _ (hg y)
      omega
    · omega
  · rw [hlt] at *
    simp at h1 h2 ⊢
    have f1 := hc.flip _ (hg x) _ (hg y)
    have f2 := hc.flip _ (hg y) _ (hg z)
    have f3 := hc.flip _ (hg x) _ (hg z)
    have k1 := hc.trans _ (hg z) _ (hg y) _ (hg x) (by omega) (by omega)
    omega
structure SE (L : List At) (M : Key → Option Value) (fs : Nat) where
  c : List Value
  i : Nat
  u : Value
  hi : i < L.length
  hu : M (fs, i) = some u
  hc : c = [u, .int .i64 (nth L i).2.1, .bool (nth L i).2.2]
def SE.a {L : List At} {M : Key → Option Value} {fs : Nat} (x : SE L M fs) : At := nth L x.i
theorem SE.mem {L : List At} {M : Key → Option Value} {fs : Nat} (x : SE L M fs) : x.a ∈ L := nth_mem x.hi
theorem SE.len {L : List At} {M : Key → Option Value} {fs : Nat} (x : SE L M fs) : x.c.length = 3 := by rw [x.hc]; rfl
theorem run_isAgg52 (w : World) : (isAgg 51).run Try.prog w = .ok true w := digest_isAgg dg51 w
theorem run_size52 (w : World) : (Go.sizeOf 51).run Try.prog w = .ok 3 w := run_sizeOf_digest dg51 w
end Go.Proofs.Ytjknjekemolndaa.ZL
namespace Go.Proofs.Ytjknjekemolndaa.ZL
open Go Go.Proofs.Ytjknjekemolndaa.Abs Go.Proofs.Ytjknjekemolndaa.Abs.Pl Go.RowKit Go.Proofs
set_option linter.unusedVariables false
set_option linter.unusedSimpArgs false
theorem rowA_den {M : Key → Option Value} {F : Nat → Prop} {w : World} {H : Store} (hR : Real Try.prog M F w H) {k k2 : Key} {e2 : Ent} {a : At} {u u2 : Value} {g : Nat} (h : H k = some (rowA a)) (hu : M k = some u)
    (h2 : H k2 = some e2) (hl : e2.live = true) (hu2 : M k2 = some u2) (hg : blkOf u2 = some g) (hne : k ≠ k2) : DenD (fun b => b = g) w (.sl a.1.length (a.1.map (.int .i64))) u := by
  obtain ⟨x, hx, hok, hFb⟩ := hR.ent _ _ h2
  rw [hu2] at hx; obtain rfl := Option.some.inj hx
  obtain ⟨y, hy, hok1, _⟩ := hR.ent _ _ h
  rw [hu] at hy; obtain rfl := Option.some.inj hy
  have hd : DenV M F w (.ref k a.1.length) u := by
    unfold DenV
    refine ⟨hu, ?_⟩
    rcases hok1 with ⟨xs, i, _, hown, _⟩ | ⟨A, h1, h3, _⟩
    · rcases hown.2 with ⟨rfl, h0⟩ | ⟨g', cap, cur, rfl, _⟩
      · exact ⟨none, 0, by rw [h0], .inl h0⟩
      · exact ⟨_, _, rfl, .inr ⟨_, _, rfl⟩⟩
    · exact ⟨A, 0, by rw [h1, h3], .inl h3⟩
  refine lendD_den (al := true) (n := 1) (Fc := fun b => b = g) (ks := [k]) hR (fun b hb => by subst hb; exact hFb hl _ hg) ?_ (fun _ b hb => ?_) hd
  · rw [lendD_ref, h]
    simp [lendR, rowA, dl_joinO, consK]
  · rintro ⟨k', hk', e, v, h3, h4, h5, h6⟩
    obtain rfl := List.mem_singleton.1 hk'
    subst hb
    exact hne (hR.inj _ _ _ _ _ _ _ h3 h2 h4 hl h5 hu2 h6 hg)
open Go.Sort in
set_option maxHeartbeats 4000000 in
theorem sort_run {M : Key → Option Value} {F : Nat → Prop} {w : World} {H : Store} (hR : Real Try.prog M F w H) {k : Key} {fs : Nat} {L : List At} {cmp : At → At → Int} (hc : SortFine cmp L) (hpos : 0 < L.length)
    (hk : H k = some (.row 51 L.length (rA (fun j => (fs, j)) 0 L))) (hF : ∀ j, j < L.length → H (fs, j) = some (rowA (nth L j))) (hkf : k.1 ≠ fs) {uk : Value} (huk : M k = some uk) :
    ∃ g cap, uk = .slice (some ⟨g, 0, none⟩) L.length cap ∧ g < w.heap.size ∧ L.length ≤ cap ∧ cap ≤ maxLen ∧
      Calls Try.prog 62 #[uk, .func (.func 63) #[] #[]] w fun e w' => e = .returned (.tuple #[]) ∧ Chg (fun b => b = g) w w' ∧ ∃ (d : Array (SE L M fs)) (cur : Array Value), d.size = L.length ∧ (d.toList.map SE.i).Perm (List.range L.length) ∧ d.toList.map SE.a = isort cmp L ∧
        w'.heap[g]? = some (.cells cur 51 (0, 0)) ∧ cur.size = cap * 3 ∧ ∀ j (hj : j < d.size), (cur.toList.drop (j * 3)).take 3 = d[j].c := by
  obtain ⟨x, hx, hok, hFk⟩ := hR.ent _ _ hk
  rw [huk] at hx; obtain rfl := Option.some.inj hx
  rcases hok with hok | ⟨A, _, h0, _⟩
  rotate_left
  · omega
  obtain ⟨xs, inf, hinf, hown, hden⟩ := hok
  have hsz3 : inf.size = 3 := by
    obtain ⟨i2, h1, h2, _⟩ := digest_size dg51
    rw [hinf] at h1
    obtain rfl := Option.some.inj h1
    exact h2
  rcases hown.2 with ⟨_, h0⟩ | hrow
  · omega
  obtain ⟨g, cap, cur, rfl, _, hg, hncap, hcapm, hcs, htake⟩ := hrow
  rw [hsz3] at hcs htake
  have hglt : g < w.heap.size := block_lt hg
  have hblk : blkOf (.slice (some ⟨g, 0, none⟩) L.length cap) = some g := by simp only [blkOf]; rw [if_neg (by omega)]
  refine ⟨g, cap, rfl, hglt, hncap, hcapm, ?_⟩
  have hxs : ∀ t, t < L.length * 3 → xs[t]? = cur[t]? := fun t ht => by
    rw [← htake, List.getElem?_take_of_lt ht, Array.getElem?_toList]
  have hcells := rA_cells hden
  simp only [Nat.zero_add] at hcells
  let el : (i : Fin L.length) → SE L M fs := fun i => ⟨(xs.drop (i.1 * 3)).take 3, i.1, Classical.choose (hcells i.1 i.2), i.2, (Classical.choose_spec (hcells i.1 i.2)).1, (Classical.choose_spec (hcells i.1 i.2)).2⟩
  haveI : Inhabited (SE L M fs) := ⟨el ⟨0, hpos⟩⟩
  let enc : SE L M fs → List Value := SE.c
  let cf : SE L M fs → SE L M fs → Int := fun x y => cmp x.a y.a
  let d : Array (SE L M fs) := Array.ofFn el
  have hds : d.size = L.length := by simp [d]
  have hdg : ∀ i (hi : i < L.length), d[i]! = el ⟨i, hi⟩ := fun i hi => by rw [getElem!_pos d i (by omega)]; simp [d]
  have hH : HoldsK enc 3 w g 0 d := by
    intro t ht
    rw [size_flatK, hds] at ht
    rw [get_flatK enc 3 d t (by rw [hds]; exact ht), Nat.zero_add]
    have hq : t / 3 < L.length := by omega
    have hm : t % 3 < 3 := Nat.mod_lt _ (by omega)
    rw [hdg _ hq]
    have hl3 := SE.len (el ⟨t / 3, hq⟩)
    have hv : (el ⟨t / 3, hq⟩).c[t % 3]? = cur[t]? := by
      show ((xs.drop (t / 3 * 3)).take 3)[t % 3]? = cur[t]?
      rw [List.getElem?_take_of_lt hm, List.getElem?_drop, show t / 3 * 3 + t % 3 = t by omega, hxs t ht]
    constructor
    · rw [blkC hg, ← hv]
      show _ = some (id ((el ⟨t / 3, hq⟩).c[t % 3]!))
      rw [getElem!_pos _ _ (by rw [hl3]; exact hm), List.getElem?_eq_getElem (by rw [hl3]; exact hm)]; rfl
    · exact blkF hg t
  have hcmp : Go.Proofs.CmpLays Try.prog 63 #[] enc 3 cf g 0 d.size w := by
    intro m os dk _ x y
    have hsame : Abs.Holds (fun b => b = g) (fun _ => False) w (Go.Proofs.sortWorldK enc 3 w g 0 m dk os) := ⟨fun b hb => hb.elim, fun b hb hl => sortW_heap enc 3 w g 0 m dk os b hl hb⟩
    have rd : ∀ z : SE L M fs, DenV (fun _ => none) (fun _ => False) (Go.Proofs.sortWorldK enc 3 w g 0 m dk os) (A1 z.a) (.agg (enc z).toArray) := fun z => by
      have hd1 : DenD (fun b => b = g) w (.sl z.a.1.length (z.a.1.map (.int .i64))) z.u := rowA_den hR (hF z.i z.hi) z.hu hk rfl huk hblk (fun e => hkf (by rw [← e]))
      unfold DenV
      refine ⟨_, rfl, ?_⟩
      show DenVs _ _ _ _ z.c
      rw [z.hc]
      exact DenVs.cons (by unfold DenV; exact hd1.move hsame) (DenVs.cons (by unfold DenV DenD; rfl) (DenVs.cons (by unfold DenV DenD; rfl) DenVs.nil))
    refine ((hc.call x.a x.mem y.a y.mem).run (Go.Proofs.sortWorldK enc 3 w g 0 m dk os) (fun _ => False) _ (fun b hb => hb.elim) (by
      simp only [Array.append_empty]
      exact DenVs.cons (rd x) (DenVs.cons (rd y) DenVs.nil))).mono ?_
    rintro e w' ⟨v, M', F', rfl, _, hv, _, hchg, _⟩
    have hv2 := hv.int
    subst hv2
    obtain ⟨q, os', hw⟩ := grow_of_chg hchg
    exact ⟨rfl, q, os', hw⟩
  have hS := Go.Proofs.AnyQ.slices_SortFunc Try.sortL 3 run_isAgg52 run_size52 enc (fun x => x.len) (fun x v hv => by
    have hv' : v ∈ x.c := hv
    rw [x.hc] at hv'
    simp only [List.mem_cons, List.not_mem_nil, or_false] at hv'
    rcases hv' with rfl | rfl | rfl
    · obtain ⟨y, hy, hok1, _⟩ := hR.ent _ _ (hF x.i x.hi)
      rw [x.hu] at hy; obtain rfl := Option.some.inj hy
      rcases hok1 with ⟨xs, i, _, hown, _⟩ | ⟨A, h1, _⟩
      · rcases hown.2 with ⟨h1, _⟩ | ⟨g', cap, cur, h1, _⟩ <;> rw [h1] <;> rfl
      · rw [h1]; rfl
    · rfl
    · rfl) cf (SWO_of hc SE.a SE.mem) 63 #[] g 0 cap d w Try.call63 hcmp hH hglt (by rw [hds]; have := hc.len; omega)
  change Calls Try.prog 62 _ _ _ at hS
  rw [hds] at hS
  refine hS.mono ?_
  rintro e w' ⟨rfl, d', m, os, ⟨hp1, _, hp3⟩, hs, rfl⟩
  have hd's : d'.size = L.length := by rw [hp1, hds]
  have hperm : d'.toList.Perm d.toList := by
    have e1 : (d'.extract 0 L.length) = d' := by rw [← hd's]; simp
    have e2 : (d.extract 0 L.length) = d := by rw [← hds]; simp
    rwa [e1, e2] at hp3
  have hdl : d.toList.map SE.a = L := by
    apply List.ext_getElem
    · simp [d]
    · intro i h1 h2
      simp [d, el, SE.a]
      exact nth_eq h2
  have hdi : d.toList.map SE.i = List.range L.length := by
    apply List.ext_getElem
    · simp [d]
    · intro i h1 h2; simp [d, el]
  refine ⟨rfl, ⟨rfl, rfl, rfl, Go.Proofs.size_sortWorldK_c enc 3 w g 0 m d' os, fun b hb hl => sortW_heap enc 3 w g 0 m d' os b hl hb, sortW_drawn enc 3 w g 0 m d' os⟩, d', _, hd's, hdi ▸ hperm.map SE.i, ?_, sortW_row enc 3 w g m d' os cur 51 hg, ?_, ?_⟩
  · refine sorted_same cmp _ _ ?_ ?_ ?_ ?_ (isort_sorted cmp L hc.flip hc.trans)
    · intro x hx y hy
      obtain ⟨x', _, rfl⟩ := List.mem_map.1 hx
      obtain ⟨y', _, rfl⟩ := List.mem_map.1 hy
      exact hc.flip _ x'.mem _ y'.mem
    · intro x hx y hy h1
      obtain ⟨x', _, rfl⟩ := List.mem_map.1 hx
      obtain ⟨y', _, rfl⟩ := List.mem_map.1 hy
      exact hc.same _ x'.mem _ y'.mem h1
    · have := hperm.map SE.a
      rw [hdl] at this
      exact this.trans (isort_perm cmp L).symm
    · rw [List.pairwise_map, List.pairwise_iff_getElem]
      intro i j hi hj hij
      have := hs i j (Nat.zero_le _) hij (by simpa [hd's] using hj)
      rw [getElem!_pos d' i (by simpa using hi), getElem!_pos d' j (by simpa using hj)] at this
      have this : decide (cmp (d'[j]'(by simpa using hj)).a (d'[i]'(by simpa using hi)).a < 0) = false := this
      have f := hc.flip _ (d'[i]'(by simpa using hi)).mem _ (d'[j]'(by simpa using hj)).mem
      simp at this
      simp only [Array.getElem_toList]
      omega
  · unfold putCells; rw [Array.size_mapIdx]; exact hcs
  · intro j hj
    have h3 := (d'[j]).len
    apply List.ext_getElem?
    intro i
    by_cases hi : i < 3
    · have ht : j * 3 + i < L.length * 3 := by omega
      rw [List.getElem?_take_of_lt hi, List.getElem?_drop, Array.getElem?_toList]
      simp only [putCells, Array.getElem?_mapIdx]
      have hlt : j * 3 + i < cur.size := by
        rw [hcs]
        have : L.length * 3 ≤ cap * 3 := Nat.mul_le_mul_right _ hncap
        omega
      rw [Array.getElem?_eq_getElem hlt, Option.map_some, if_pos ⟨Nat.zero_le _, by simp [hd's]; omega⟩, Nat.sub_zero, get_flatK enc 3 d' _ (by omega)]
      rw [show (j * 3 + i) / 3 = j by omega, show (j * 3 + i) % 3 = i by omega, getElem!_pos d' j (by omega), getElem!_pos _ i (by show i < d'[j].c.length; omega)]
      rw [List.getElem?_eq_getElem (by omega)]
      rfl
    · rw [List.getElem?_eq_none (by simp; omega), List.getElem?_eq_none (by omega)]
end Go.Proofs.Ytjknjekemolndaa.ZL
namespace Go.Proofs.Ytjknjekemolndaa.ZL
open Go Go.Proofs.Ytjknjekemolndaa.Abs Go.Proofs.Ytjknjekemolndaa.Abs.Pl Go.RowKit Go.Proofs
set_option linter.unusedVariables false
set_option linter.unusedSimpArgs false
theorem CallJ.sort {N nx s : Nat} {H : Store} {K : Eff → Prop} (fs : Nat) (k : Key) (L : List At) (cmp : At → At → Int) (hc : SortFine cmp L)
    (hk : H k = some (.row 51 L.length (rA (fun j => (fs, j)) 0 L))) (hF : ∀ j, j < L.length → H (fs, j) = some (rowA (nth L j))) (hkf : k.1 ≠ fs) (hkn : k.1 < nx) (hfn : fs < nx)
    (hK : K ⟨.tup [], k :: (List.range L.length).map (fun j => (fs, j)), k :: (List.range L.length).map (fun j => (fs, j)), sortUp k fs L.length s (isort cmp L)⟩) :
    CallJ Try.prog N nx s H 62 [.ref k L.length, .fn 63 []] K := by
  have hmem : ∀ k', k' ∈ k :: (List.range L.length).map (fun j => (fs, j)) ↔ k' = k ∨ k'.1 = fs ∧ k'.2 < L.length := by
    intro k'
    simp only [List.mem_cons, List.mem_map, List.mem_range]
    constructor
    · rintro (h | ⟨j, hj, rfl⟩)
      · exact .inl h
      · exact .inr ⟨rfl, hj⟩
    · rintro (h | ⟨h1, h2⟩)
      · exact .inl h
      · exact .inr ⟨k'.2, h2, by rw [← h1]⟩
  refine ⟨_, hK, Try.call62, fun k' h => ?_, fun k' h => h, fun k' h => ?_, fun {w0 F0 E0 fr T Hc a w M F us dst} hfr hat hden hH hd => ?_⟩
  · simp only [sortUp] at h
    split at h
    · rename_i h1; exact .inr ((hmem k').2 (.inl h1))
    · split at h
      · rename_i h1; exact .inl h1
      · split at h
        · rename_i h1; exact .inr ((hmem k').2 (.inr h1))
        · exact absurd rfl h
  · rcases (hmem k').1 h with rfl | ⟨h1, h2⟩
    · exact ⟨by rw [hk]; rfl, .inl hkn⟩
    · have : k' = (fs, k'.2) := by rw [← h1]
      exact ⟨by rw [this, hF _ h2]; rfl, .inl (by omega)⟩
  have hkc : Hc k = some (.row 51 L.length (rA (fun j => (fs, j)) 0 L)) := by rw [hH k ((hmem k).2 (.inl rfl)), hk]
  have hFc : ∀ j, j < L.length → Hc (fs, j) = some (rowA (nth L j)) := fun j hj => by rw [hH _ ((hmem _).2 (.inr ⟨rfl, hj⟩)), hF j hj]
  obtain ⟨uk, huk, _⟩ := hat.real.ent _ _ hkc
  obtain rfl : us = #[uk, .func (.func 63) #[] #[]] := by
    unfold DenVs at hden
    obtain ⟨u, r, h1, h2, h3⟩ := hden
    unfold DenVs at h3
    obtain ⟨u', r', rfl, h4, h5⟩ := h3
    unfold DenVs at h5
    subst h5
    unfold DenV at h2 h4
    rw [huk] at h2
    obtain ⟨cs, h6, h7⟩ := h4
    unfold DenVs at h7
    have hcs : cs = #[] := by simpa using h7
    have h8 := Option.some.inj h2.1
    refine Array.toList_inj.1 ?_
    rw [h1, ← h8, h6, hcs]
  have hfs : ∀ k' : Key, k'.1 = s → M k' = none := fun k' hk' => hat.free k' (by rw [hk']; exact hfr)
  have hks : k.1 ≠ s := fun e => by rw [hfs k e] at huk; exact absurd huk (by simp)
  by_cases hL : L.length = 0
  · obtain rfl := List.eq_nil_of_length_eq_zero hL
    have hS := AnyF.slices_SortFunc_none (P := Try.prog) (ρ := Try.sortL_ren) { Try.sortL with }
    obtain ⟨x, hx, hok, _⟩ := hat.real.ent _ _ hkc
    rw [huk] at hx; obtain rfl := Option.some.inj hx
    obtain ⟨A, cap, rfl⟩ : ∃ A cap, uk = .slice A 0 cap := by
      rcases hok with ⟨xs, i, _, hown, _⟩ | ⟨A, h1, _⟩
      · rcases hown.2 with ⟨rfl, _⟩ | ⟨g', cap, cur, rfl, _⟩
        · exact ⟨_, _, rfl⟩
        · exact ⟨_, _, rfl⟩
      · exact ⟨A, 0, h1⟩
    have hS := hS A cap (.func (.func 63) #[] #[]) w
    change Calls Try.prog 62 _ _ _ at hS
    refine hS.mono ?_
    rintro e w' ⟨rfl, rfl⟩
    refine ⟨_, rfl, ?_⟩
    have e1 : app (sortUp k fs ([] : List At).length s (isort cmp [])) Hc = Hc := by
      funext k'
      simp only [app, sortUp, isort, List.length_nil, ownA]
      by_cases h1 : k' = k
      · subst h1; simp [hkc]; rfl
      · by_cases h2 : k'.1 = s
        · simp [h1, h2]
        · simp [h1, h2]
    rw [e1]
    exact hat.step hd (fun _ _ h => h) (fun _ _ => rfl) hat.keep (Abs.Holds.refl F w') hat.real (by unfold DenV; exact ⟨#[], rfl, DenVs.nil⟩) (Chg.refl (fun _ => False) w') (fun _ h => h.elim) hat.reach
  have hpos : 0 < L.length := by omega
  obtain ⟨g, cap, rfl, hglt, hncap, hcapm, hcall⟩ := sort_run hat.real hc hpos hkc hFc hkf huk
  refine hcall.mono ?_
  rintro e w' ⟨rfl, hchg, d, cur, hds, hperm, hdl, hg', hcs, hcells⟩
  refine ⟨_, rfl, ?_⟩
  have hblk : blkOf (.slice (some ⟨g, 0, none⟩) L.length cap) = some g := by simp only [blkOf]; rw [if_neg (by omega)]
  have hclen : cur.toList.length = cap * 3 := by rw [← hcs]; simp
  have hSl : (isort cmp L).length = L.length := (isort_perm cmp L).length_eq
  have hgF : F g := by
    obtain ⟨x, hx, _, hF⟩ := hat.real.ent _ _ hkc
    rw [huk] at hx; obtain rfl := Option.some.inj hx
    exact hF rfl g hblk
  have hSn : ∀ j (hj : j < L.length), nth (isort cmp L) j = (d[j]'(by omega)).a := fun j hj => by
    have hj2 : j < (isort cmp L).length := by omega
    rw [nth_eq hj2]
    simp only [← hdl]
    simp
  let tg : Nat → Nat := fun j => if h : j < d.size then (d[j]).i else 0
  have htg : ∀ j (hj : j < L.length), tg j = (d[j]'(by omega)).i := fun j hj => by show (if h : j < d.size then (d[j]).i else 0) = _; rw [dif_pos (by omega)]
  have htlt : ∀ j, j < L.length → tg j < L.length := fun j hj => by rw [htg j hj]; exact (d[j]'(by omega)).hi
  have hnd : (d.toList.map SE.i).Nodup := hperm.nodup_iff.2 List.nodup_range
  have htinj : ∀ i j, i < L.length → j < L.length → tg i = tg j → i = j := fun i j hi hj h => by
    rw [htg i hi, htg j hj] at h
    have hi' : i < (d.toList.map SE.i).length := by simp; omega
    have hj' : j < (d.toList.map SE.i).length := by simp; omega
    have hp := List.pairwise_iff_getElem.1 hnd
    have he : (d.toList.map SE.i)[i] = (d.toList.map SE.i)[j] := by simpa using h
    rcases Nat.lt_trichotomy i j with h1 | h1 | h1
    · exact absurd he (hp i j hi' hj' h1)
    · exact h1
    · exact absurd he.symm (hp j i hj' hi' h1)
  let M2 : Key → Option Value := fun k' => if k'.1 = s then (if k'.2 < L.length then M (fs, tg k'.2) else none) else M k'
  have hM2o : ∀ k' : Key, k'.1 ≠ s → M2 k' = M k' := fun k' h => by show (if k'.1 = s then _ else M k') = _; rw [if_neg h]
  have hM2s : ∀ j, j < L.length → M2 (s, j) = M (fs, tg j) := fun j hj => by show (if s = s then (if j < L.length then M (fs, tg j) else none) else _) = _; rw [if_pos rfl, if_pos hj]
  have hM : ∀ k' x, M k' = some x → M2 k' = some x := fun k' x h => by rw [hM2o k' (fun e => by rw [hfs k' e] at h; exact absurd h (by simp))]; exact h
  have hh : Abs.Holds F F w w' := ⟨fun b hb => .inl hb, fun b hb hl => hchg.block b (fun e => hb (e ▸ hgF)) hl⟩
  have hget : ∀ k' e', app (sortUp k fs L.length s (isort cmp L)) Hc k' = some e' →
      (k' = k ∧ e' = .row 51 (isort cmp L).length (rA (fun j => (s, j)) 0 (isort cmp L))) ∨ (∃ j, j < L.length ∧ k' = (s, j) ∧ e' = rowA (nth (isort cmp L) j)) ∨ (k' ≠ k ∧ k'.1 ≠ s ∧ ¬ (k'.1 = fs ∧ k'.2 < L.length) ∧ Hc k' = some e') := by
    intro k' e' h
    simp only [app, sortUp] at h
    by_cases h1 : k' = k
    · rw [if_pos h1] at h; exact .inl ⟨h1, (Option.some.inj h).symm⟩
    · rw [if_neg h1] at h
      by_cases h2 : k'.1 = s
      · rw [if_pos h2] at h
        cases hq : ownA (isort cmp L) k'.2 with
        | none =>
          rw [hq] at h
          simp only at h
          obtain ⟨x, hx, _⟩ := hat.real.ent _ _ h
          rw [hfs k' h2] at hx; exact absurd hx (by simp)
        | some e0 =>
          rw [hq] at h
          simp only [Option.some.injEq] at h
          obtain ⟨h3, h4⟩ := ownA_some hq
          exact .inr (.inl ⟨k'.2, by omega, by rw [← h2], by rw [← h, h4]⟩)
      · rw [if_neg h2] at h
        by_cases h3 : k'.1 = fs ∧ k'.2 < L.length
        · rw [if_pos h3] at h; exact absurd h (by simp)
        · rw [if_neg h3] at h; exact .inr (.inr ⟨h1, h2, h3, h⟩)
  have hoth : ∀ k' e' u b, k' ≠ k → Hc k' = some e' → e'.live = true → M k' = some u → blkOf u = some b → b ≠ g := by
    intro k' e' u b hne h hl hu hb e
    subst e
    exact hne (hat.real.inj _ _ _ _ _ _ _ h hkc hl rfl hu huk hb hblk)
  have hfk : ∀ j, (fs, j) ≠ k := fun j e => hkf (by rw [← e])
  have hph : ∀ k' e' u b, app (sortUp k fs L.length s (isort cmp L)) Hc k' = some e' → e'.live = true → M2 k' = some u → blkOf u = some b → ∃ k0 e0, Hc k0 = some e0 ∧ e0.live = true ∧ M k0 = some u ∧ (k' = k ∧ k0 = k ∨ (∃ j, j < L.length ∧ k' = (s, j) ∧ k0 = (fs, tg j)) ∨ (k' ≠ k ∧ k'.1 ≠ s ∧ ¬ (k'.1 = fs ∧ k'.2 < L.length) ∧ k0 = k')) := by
    intro k' e' u b h hl hu hb
    rcases hget k' e' h with ⟨rfl, rfl⟩ | ⟨j, hj, rfl, rfl⟩ | ⟨h1, h2, h3, h4⟩
    · exact ⟨k', _, hkc, rfl, by rw [← hM2o k' hks]; exact hu, .inl ⟨rfl, rfl⟩⟩
    · exact ⟨(fs, tg j), _, hFc _ (htlt j hj), rfl, by rw [← hM2s j hj]; exact hu, .inr (.inl ⟨j, hj, rfl, rfl⟩)⟩
    · exact ⟨k', e', h4, hl, by rw [← hM2o k' h2]; exact hu, .inr (.inr ⟨h1, h2, h3, rfl⟩)⟩
  refine hat.step (M' := M2) (F' := F) hd hM hM2o hat.keep hh ⟨?_, ?_⟩ (by unfold DenV; exact ⟨#[], rfl, DenVs.nil⟩) hchg (fun b hb => ?_) ?_
  · intro k' e' h
    rcases hget k' e' h with ⟨rfl, rfl⟩ | ⟨j, hj, rfl, rfl⟩ | ⟨h1, h2, h3, h4⟩
    · refine ⟨_, by rw [hM2o k' hks]; exact huk, ?_, fun _ b hb => by rw [hblk] at hb; obtain rfl := Option.some.inj hb; exact hgF⟩
      obtain ⟨inf, hinf, hsz, _⟩ := digest_size dg51
      have hsz3 : inf.size = 3 := hsz
      refine .inl ⟨cur.toList.take (L.length * 3), inf, hinf, ?_, ?_⟩
      · rw [hsz3, hSl]
        refine ⟨?_, .inr ⟨g, cap, cur, rfl, Nat.zero_le _, hg', hncap, hcapm, hcs, rfl⟩⟩
        rw [List.length_take, hclen, Nat.min_eq_left (Nat.mul_le_mul_right _ hncap)]
      · refine rA_den ?_ ?_
        · rw [List.length_take, hclen, Nat.min_eq_left (Nat.mul_le_mul_right _ hncap), hSl]
        · intro j hj
          rw [hSl] at hj
          have hcj := hcells j (by omega)
          have hx := (d[j]'(by omega)).hc
          have hu := (d[j]'(by omega)).hu
          obtain ⟨y, hy, hok, _⟩ := hat.real.ent _ _ (hFc _ (d[j]'(by omega)).hi)
          rw [hu] at hy; obtain rfl := Option.some.inj hy
          have hsl : ∃ A cap, (d[j]'(by omega)).u = .slice A (nth L (d[j]'(by omega)).i).1.length cap ∧ ((nth L (d[j]'(by omega)).i).1.length = 0 ∨ ∃ b o, A = some ⟨b, o, none⟩) := by
            rcases hok with ⟨xs, i, _, hown, _⟩ | ⟨A, h1, h3, _⟩
            · rcases hown.2 with ⟨h1, h0⟩ | ⟨g', cap, cur, h1, _⟩
              · exact ⟨none, 0, by rw [h1, h0], .inl h0⟩
              · exact ⟨_, _, h1, .inr ⟨_, _, rfl⟩⟩
            · exact ⟨A, 0, by rw [h1, h3], .inl h3⟩
          obtain ⟨A, cp, e1, e2⟩ := hsl
          rw [hSn j hj]
          refine ⟨(d[j]'(by omega)).u, A, cp, ?_, e1, e2, ?_⟩
          · rw [Nat.zero_add, hM2s j hj, htg j hj]; exact hu
          · rw [List.drop_take, List.take_take, Nat.min_eq_left (by omega), hcj, hx]; rfl
    · have hj2 := hFc _ (htlt j hj)
      obtain ⟨u, hu, hok, hFb⟩ := hat.real.ent _ _ hj2
      have e1 : nth (isort cmp L) j = nth L (tg j) := by rw [hSn j hj, htg j hj]; rfl
      rw [e1]
      refine ⟨u, by rw [hM2s j hj]; exact hu, hok.move hM hh (fun hl b hb => hchg.block b (hoth _ _ u b (hfk _) hj2 rfl hu hb) (hok.blk_lt hl hb)), hFb⟩
    · obtain ⟨u, hu, hok, hFb⟩ := hat.real.ent _ _ h4
      exact ⟨u, hM _ _ hu, hok.move hM hh (fun hl b hb => hchg.block b (hoth _ _ u b h1 h4 hl hu hb) (hok.blk_lt hl hb)), hFb⟩
  · intro k1 k2 e1 e2 u1 u2 b h1 h2 hl1 hl2 hu1 hu2 hb1 hb2
    obtain ⟨q1, f1, a1, a2, a3, a4⟩ := hph k1 e1 u1 b h1 hl1 hu1 hb1
    obtain ⟨q2, f2, b1, b2, b3, b4⟩ := hph k2 e2 u2 b h2 hl2 hu2 hb2
    have hq := hat.real.inj q1 q2 _ _ _ _ b a1 b1 a2 b2 a3 b3 hb1 hb2
    subst hq
    rcases a4 with ⟨rfl, rfl⟩ | ⟨j, hj, rfl, rfl⟩ | ⟨c1, c2, c3, rfl⟩ <;> rcases b4 with ⟨rfl, h⟩ | ⟨j', hj', rfl, h⟩ | ⟨c1', c2', c3', h⟩
    · rfl
    · exact absurd h.symm (hfk _)
    · exact absurd h.symm c1'
    · exact absurd h (hfk _)
    · rw [htinj j j' hj hj' (by injection h)]
    · exact absurd ⟨by rw [← h], by rw [← h]; exact htlt j hj⟩ c3'
    · exact absurd h c1
    · exact absurd ⟨by rw [h], by rw [h]; exact htlt j' hj'⟩ c3
    · exact h
  · subst hb
    exact hat.reach _ _ _ b hkc rfl huk hblk
  · intro k' e' u b h hl hu hb
    obtain ⟨k0, e0, a1, a2, a3, _⟩ := hph k' e' u b h hl hu hb
    exact hat.reach k0 e0 u b a1 a2 a3 hb
theorem sortUp_k (k : Key) (fs n s : Nat) (S : List At) (H : Store) : app (sortUp k fs n s S) H k = some (.row 51 S.length (rA (fun j => (s, j)) 0 S)) := by simp [app, sortUp]
theorem sortUp_j (k : Key) (fs n s : Nat) (S : List At) (H : Store) (j : Nat) (h : j < S.length) (hk : k.1 ≠ s) : app (sortUp k fs n s S) H (s, j) = some (rowA (nth S j)) := by
  have : (s, j) ≠ k := fun e => hk (by rw [← e])
  simp [app, sortUp, this, ownA_lt h]
theorem sortUp_ne (k : Key) (fs n s : Nat) (S : List At) (H : Store) (a b : Nat) (h : (a, b) ≠ k) (h1 : a ≠ s) (h2 : a ≠ fs) : app (sortUp k fs n s S) H (a, b) = H (a, b) := by simp [app, sortUp, h, h1, h2]
attribute [simp] sortUp_k sortUp_ne
end Go.Proofs.Ytjknjekemolndaa.ZL
namespace Go.Proofs.Ytjknjekemolndaa.ZL
open Go Go.Proofs.Ytjknjekemolndaa.Abs Go.Proofs.Ytjknjekemolndaa.Abs.Pl Go.RowKit Go.Proofs
set_option linter.unusedVariables false
set_option linter.unusedSimpArgs false
abbrev O1 (d : Int) (R : List At) : V := .agg [I d, .ref (0, 0) R.length]
theorem iEmptyCell (d : Int) (hd : 0 ≤ d ∧ d ≤ 4) : Cn Try.prog 61 [I d] (O1 d [noneA d]) (ownR [noneA d]) := by
  refine Cn.of [] mixed Try.func61 rfl Try.call61 (by kernel_rfl) rfl ?_
  simp -implicitDefEqProofs -dsimp +contextual [-Bool.exists_bool, -Int.not_le, -Int.not_lt, -getElem?_pos, -List.getD_eq_getElem?_getD, Try.f61]
  have hl : (noneA d).1.length = d.toNat := by simp [-Bool.exists_bool, -Int.not_le, -Int.not_lt, -getElem?_pos, -List.getD_eq_getElem?_getD, noneA]
  refine ⟨⟨hd.1, by omega, by simp [-Bool.exists_bool, -Int.not_le, -Int.not_lt, -getElem?_pos, -List.getD_eq_getElem?_getD, maxLen]; omega⟩, ?_⟩
  refine RLe.own (5, 0) (fun _ => (3, 0)) [noneA d] ?_ ?_ ?_ ?_ ?_
  · simp [-Bool.exists_bool, -Int.not_le, -Int.not_lt, -getElem?_pos, -List.getD_eq_getElem?_getD, invO]
  · simp [-Bool.exists_bool, -Int.not_le, -Int.not_lt, -getElem?_pos, -List.getD_eq_getElem?_getD, setH, rA, hl]
    simp [-Bool.exists_bool, -Int.not_le, -Int.not_lt, -getElem?_pos, -List.getD_eq_getElem?_getD, noneA]
  · intro j hj
    obtain rfl : j = 0 := by simpa [-Bool.exists_bool, -Int.not_le, -Int.not_lt, -getElem?_pos, -List.getD_eq_getElem?_getD] using hj
    show _ = some (rowA (noneA d))
    simp [-Bool.exists_bool, -Int.not_le, -Int.not_lt, -getElem?_pos, -List.getD_eq_getElem?_getD, setH, rowA, hl]
    simp [-Bool.exists_bool, -Int.not_le, -Int.not_lt, -getElem?_pos, -List.getD_eq_getElem?_getD, noneA]
  · intro i j hi hj _
    simp [-Bool.exists_bool, -Int.not_le, -Int.not_lt, -getElem?_pos, -List.getD_eq_getElem?_getD] at hi hj
    omega
  · intro j _; simp [-Bool.exists_bool, -Int.not_le, -Int.not_lt, -getElem?_pos, -List.getD_eq_getElem?_getD]
theorem sortFine {d : Int} {K : List At} (hK : allOk d K) (hv : ∀ a ∈ K, hasV a = true) (hn : K.length ≤ 100000) : SortFine cmpK K := by
  have nz : ∀ a ∈ K, gcdL a.1 ≠ 0 := fun a ha h0 => by have := hv a ha; simp [-Bool.exists_bool, -Int.not_le, -Int.not_lt, -getElem?_pos, -List.getD_eq_getElem?_getD, hasV, h0] at this
  have ln : ∀ a ∈ K, ∀ b ∈ K, a.1.length = b.1.length := fun a ha b hb => by have h1 := (hK a ha).2; have h2 := (hK b hb).2; omega
  refine ⟨by omega, fun a ha b hb => ?_, fun a _ b _ => cmpK_flip a b, fun a ha b hb h => cmpK_eq (hK a ha).1 (hK b hb).1 (ln a ha b hb) (nz a ha) (nz b hb) h, fun a ha b hb c hc => cmpK_trans (ln a ha b hb) (ln b hb c hc)⟩
  have := iCompareAtoms a b
  rwa [cmpAt_K (hK a ha) (hK b hb)] at this
def noBad (L : List At) : Prop := L.any badA = false
def selA (s : Nat) (S : List At) (sel : List Nat) : List V := rA (fun j => (s, nth sel j)) 0 (sel.map (nth S))
theorem nth_app {α : Type} [Inhabited α] {l m : List α} {i : Nat} (h : i < l.length) : nth (l ++ m) i = nth l i := by rw [nth_eq h, nth_eq (by simp [-Bool.exists_bool, -Int.not_le, -Int.not_lt, -getElem?_pos, -List.getD_eq_getElem?_getD]; omega), List.getElem_append_left h]
theorem nth_last {α : Type} [Inhabited α] (l : List α) (a : α) : nth (l ++ [a]) l.length = a := by rw [nth_eq (by simp [-Bool.exists_bool, -Int.not_le, -Int.not_lt, -getElem?_pos, -List.getD_eq_getElem?_getD])]; simp [-Bool.exists_bool, -Int.not_le, -Int.not_lt, -getElem?_pos, -List.getD_eq_getElem?_getD]
theorem nth_map {α β : Type} [Inhabited α] [Inhabited β] (f : α → β) {l : List α} {i : Nat} (h : i < l.length) : nth (l.map f) i = f (nth l i) := by rw [nth_eq h, nth_eq (by simpa [-Bool.exists_bool, -Int.not_le, -Int.not_lt, -getElem?_pos, -List.getD_eq_getElem?_getD] using h)]; simp [-Bool.exists_bool, -Int.not_le, -Int.not_lt, -getElem?_pos, -List.getD_eq_getElem?_getD]
theorem selA_push (s : Nat) (S : List At) (sel : List Nat) (i : Nat) : selA s S (sel ++ [i]) = selA s S sel ++ [.ref (s, i) (nth S i).1.length, I (nth S i).2.1, B (nth S i).2.2] := by
  unfold selA
  rw [List.map_append, rA_append]
  congr 1
  · exact rA_congr _ _ (fun j hj => by rw [Nat.zero_add, nth_app (by simpa [-Bool.exists_bool, -Int.not_le, -Int.not_lt, -getElem?_pos, -List.getD_eq_getElem?_getD] using hj)])
  · simp [-Bool.exists_bool, -Int.not_le, -Int.not_lt, -getElem?_pos, -List.getD_eq_getElem?_getD, rA, nth_last]
theorem ddN_two {S : List At} {i : Nat} (h : i + 1 < S.length) : ddN (S.drop i) = if wayAt (nth S i).1 (nth S (i + 1)).1 = 0 then ddN (S.drop (i + 1)) else nth S i :: ddN (S.drop (i + 1)) := by
  rw [nth_drop (by omega : i < S.length), nth_drop h, ddN]
theorem ddN_one {S : List At} {i : Nat} (h : i < S.length) (h2 : ¬ i + 1 < S.length) : ddN (S.drop i) = [nth S i] := by
  rw [nth_drop h, drop_nil (by omega)]; rfl
theorem iNormalOf (d : Int) (hd : 0 ≤ d ∧ d ≤ 4) (L : List At) (h100 : L.length ≤ 100000) (hL : allOk d L) : Cn Try.prog 37 [I d, As L] (O1 d (nrm d L)) (ownR (nrm d L)) := by
  refine Cn.of [] mixed Try.func37 rfl Try.call37 (by kernel_rfl) rfl ?_
  simp -implicitDefEqProofs -dsimp +contextual [-Bool.exists_bool, -Int.not_le, -Int.not_lt, -getElem?_pos, -List.getD_eq_getElem?_getD, Try.f37]
  refine WP.loop mixed [] (fun i : Nat => ⟨tl [(0, I d), (4, .ptr (0, 0) 0), (5, .ref (1, 0) ((L.take i).filter hasV).length), (12, As L), (13, I L.length), (14, I i)],
      famS 2 (ownA ((L.take i).filter hasV)) (hl [((0, 0), .box [I 0, .nil]), ((1, 0), .row 51 ((L.take i).filter hasV).length (rA (fun j => (2, j)) 0 ((L.take i).filter hasV)))]), 3⟩)
    (fun i => i ≤ L.length ∧ noBad (L.take i)) (fun i => L.length - i) 0 (by kernel_rfl) ?_ ?_ ?_
  · refine Le.trans (Le.nil 5 51 (by simp [-Bool.exists_bool, -Int.not_le, -Int.not_lt, -getElem?_pos, -List.getD_eq_getElem?_getD])) (Le.fam 2 [] (fun _ => (0, 0)) [((1, 0), (6, 0))] ?_ ?_ ?_ ?_ ?_ ?_) <;> simp [-Bool.exists_bool, -Int.not_le, -Int.not_lt, -getElem?_pos, -List.getD_eq_getElem?_getD, setH, rA, invF]
  · exact ⟨Nat.zero_le _, rfl⟩
  · rintro i ⟨hi, hb⟩
    by_cases h : i < L.length
    · have ha := hL _ (nth_mem h)
      have hu := okA.nu ha
      have hlen : ((L.take i).filter hasV).length ≤ i := by
        have := List.length_filter_le hasV (L.take i)
        simp [-Bool.exists_bool, -Int.not_le, -Int.not_lt, -getElem?_pos, -List.getD_eq_getElem?_getD] at this
        omega
      simp -implicitDefEqProofs -dsimp +contextual [-Bool.exists_bool, -Int.not_le, -Int.not_lt, -getElem?_pos, -List.getD_eq_getElem?_getD, h]
      refine CallJ.pure (iHasVariables (nth L i) hu.1 hu.bd63) rfl (by simp [-Bool.exists_bool, -Int.not_le, -Int.not_lt, -getElem?_pos, -List.getD_eq_getElem?_getD]) ?_
      simp -implicitDefEqProofs -dsimp +contextual [-Bool.exists_bool, -Int.not_le, -Int.not_lt, -getElem?_pos, -List.getD_eq_getElem?_getD, h]
      have tk := nth_take h
      have fk : hasV (nth L i) = true → (L.take (i + 1)).filter hasV = (L.take i).filter hasV ++ [nth L i] := fun hh => by rw [tk, List.filter_append, List.filter_cons_of_pos hh]; rfl
      have fn : hasV (nth L i) = false → (L.take (i + 1)).filter hasV = (L.take i).filter hasV := fun hh => by rw [tk, List.filter_append, List.filter_cons_of_neg (by rw [hh]; simp [-Bool.exists_bool, -Int.not_le, -Int.not_lt, -getElem?_pos, -List.getD_eq_getElem?_getD])]; simp [-Bool.exists_bool, -Int.not_le, -Int.not_lt, -getElem?_pos, -List.getD_eq_getElem?_getD]
      have bk : badA (nth L i) = false → noBad (L.take (i + 1)) := fun hh => by unfold noBad at hb ⊢; rw [tk, List.any_append, hb]; simp [-Bool.exists_bool, -Int.not_le, -Int.not_lt, -getElem?_pos, -List.getD_eq_getElem?_getD, hh]
      have good : badA (nth L i) = true → nrm d L = [noneA d] := fun hh => by
        rw [nrm, if_pos]
        exact List.any_eq_true.2 ⟨_, nth_mem h, hh⟩
      refine ⟨fun hv => ?_, fun hv => ⟨fun hp => ?_, fun hp => ⟨fun hz => ⟨fun hs => ?_, fun hs => ?_⟩, fun hz => ?_⟩⟩⟩
      · refine CallJ.pure (iCopyAtom (nth L i) hu.1) rfl (by simp [-Bool.exists_bool, -Int.not_le, -Int.not_lt, -getElem?_pos, -List.getD_eq_getElem?_getD]) ?_
        simp -implicitDefEqProofs -dsimp +contextual [-Bool.exists_bool, -Int.not_le, -Int.not_lt, -getElem?_pos, -List.getD_eq_getElem?_getD, h]
        have hbad : badA (nth L i) = false := by simp [-Bool.exists_bool, -Int.not_le, -Int.not_lt, -getElem?_pos, -List.getD_eq_getElem?_getD, badA, hasV] at hv ⊢; intro h0; exact absurd h0 hv
        refine ⟨⟨by omega, by simp [-Bool.exists_bool, -Int.not_le, -Int.not_lt, -getElem?_pos, -List.getD_eq_getElem?_getD, maxLen]; omega⟩, i + 1, ⟨h, bk hbad⟩, by omega, ?_⟩
        rw [fk hv, wr (by omega) (by omega)]
        generalize (L.take i).filter hasV = K
        refine Le.fam 2 (K ++ [nth L i]) (fPush 2 K.length (13, 0)) [((1, 0), (15, 0))] ?_ ?_ ?_ ?_ (push_inj (by simp [-Bool.exists_bool, -Int.not_le, -Int.not_lt, -getElem?_pos, -List.getD_eq_getElem?_getD])) ?_
        · simp [-Bool.exists_bool, -Int.not_le, -Int.not_lt, -getElem?_pos, -List.getD_eq_getElem?_getD, invF]
        · simp [-Bool.exists_bool, -Int.not_le, -Int.not_lt, -getElem?_pos, -List.getD_eq_getElem?_getD, setH, ELe]
          exact push_VLes K (nth L i) (13, 0) (by simp [-Bool.exists_bool, -Int.not_le, -Int.not_lt, -getElem?_pos, -List.getD_eq_getElem?_getD])
        · simp [-Bool.exists_bool, -Int.not_le, -Int.not_lt, -getElem?_pos, -List.getD_eq_getElem?_getD]
        · exact push_F (fun j hj => by simp [-Bool.exists_bool, -Int.not_le, -Int.not_lt, -getElem?_pos, -List.getD_eq_getElem?_getD, setH, ownA_lt hj]) (by simp [-Bool.exists_bool, -Int.not_le, -Int.not_lt, -getElem?_pos, -List.getD_eq_getElem?_getD, setH, rowA])
        · intro j hj
          simp [-Bool.exists_bool, -Int.not_le, -Int.not_lt, -getElem?_pos, -List.getD_eq_getElem?_getD, fPush]
          split <;> simp [-Bool.exists_bool, -Int.not_le, -Int.not_lt, -getElem?_pos, -List.getD_eq_getElem?_getD]
      · refine CallJ.pure (iEmptyCell d hd) rfl (by simp [-Bool.exists_bool, -Int.not_le, -Int.not_lt, -getElem?_pos, -List.getD_eq_getElem?_getD]) ?_
        simp -implicitDefEqProofs -dsimp +contextual [-Bool.exists_bool, -Int.not_le, -Int.not_lt, -getElem?_pos, -List.getD_eq_getElem?_getD, h]
        rw [good (by simp [-Bool.exists_bool, -Int.not_le, -Int.not_lt, -getElem?_pos, -List.getD_eq_getElem?_getD, badA, hp]; simpa [-Bool.exists_bool, -Int.not_le, -Int.not_lt, -getElem?_pos, -List.getD_eq_getElem?_getD, hasV] using hv)]
        refine RLe.own (24, 0) (fun j => (24, j + 1)) [noneA d] ?_ ?_ ?_ ?_ ?_
        · simp [-Bool.exists_bool, -Int.not_le, -Int.not_lt, -getElem?_pos, -List.getD_eq_getElem?_getD, invO]
        · simp [-Bool.exists_bool, -Int.not_le, -Int.not_lt, -getElem?_pos, -List.getD_eq_getElem?_getD, setH]
        · intro j hj; simp [-Bool.exists_bool, -Int.not_le, -Int.not_lt, -getElem?_pos, -List.getD_eq_getElem?_getD, setH, upOwn_j _ _ _ _ hj]
        · intro i j _ _; simp [-Bool.exists_bool, -Int.not_le, -Int.not_lt, -getElem?_pos, -List.getD_eq_getElem?_getD]
        · intro j _; simp [-Bool.exists_bool, -Int.not_le, -Int.not_lt, -getElem?_pos, -List.getD_eq_getElem?_getD]
      · refine CallJ.pure (iEmptyCell d hd) rfl (by simp [-Bool.exists_bool, -Int.not_le, -Int.not_lt, -getElem?_pos, -List.getD_eq_getElem?_getD]) ?_
        simp -implicitDefEqProofs -dsimp +contextual [-Bool.exists_bool, -Int.not_le, -Int.not_lt, -getElem?_pos, -List.getD_eq_getElem?_getD, h]
        rw [good (by simp [-Bool.exists_bool, -Int.not_le, -Int.not_lt, -getElem?_pos, -List.getD_eq_getElem?_getD, badA, hz, hs]; simpa [-Bool.exists_bool, -Int.not_le, -Int.not_lt, -getElem?_pos, -List.getD_eq_getElem?_getD, hasV] using hv)]
        refine RLe.own (24, 0) (fun j => (24, j + 1)) [noneA d] ?_ ?_ ?_ ?_ ?_
        · simp [-Bool.exists_bool, -Int.not_le, -Int.not_lt, -getElem?_pos, -List.getD_eq_getElem?_getD, invO]
        · simp [-Bool.exists_bool, -Int.not_le, -Int.not_lt, -getElem?_pos, -List.getD_eq_getElem?_getD, setH]
        · intro j hj; simp [-Bool.exists_bool, -Int.not_le, -Int.not_lt, -getElem?_pos, -List.getD_eq_getElem?_getD, setH, upOwn_j _ _ _ _ hj]
        · intro i j _ _; simp [-Bool.exists_bool, -Int.not_le, -Int.not_lt, -getElem?_pos, -List.getD_eq_getElem?_getD]
        · intro j _; simp [-Bool.exists_bool, -Int.not_le, -Int.not_lt, -getElem?_pos, -List.getD_eq_getElem?_getD]
      · refine ⟨i + 1, ⟨h, bk (by simp [-Bool.exists_bool, -Int.not_le, -Int.not_lt, -getElem?_pos, -List.getD_eq_getElem?_getD, badA, hz, hs])⟩, by omega, ?_⟩
        rw [fn hv, wr (by omega) (by omega)]
        generalize (L.take i).filter hasV = K
        refine Le.fam 2 K (fun j => (2, j)) [] ?_ ?_ ?_ ?_ (fun i j _ _ h => by injection h) ?_
        · simp [-Bool.exists_bool, -Int.not_le, -Int.not_lt, -getElem?_pos, -List.getD_eq_getElem?_getD, invF]
        · simp [-Bool.exists_bool, -Int.not_le, -Int.not_lt, -getElem?_pos, -List.getD_eq_getElem?_getD, setH, ELe]
          exact rA_VLes K 0 (fun i _ => by simp [-Bool.exists_bool, -Int.not_le, -Int.not_lt, -getElem?_pos, -List.getD_eq_getElem?_getD, invF])
        · simp [-Bool.exists_bool, -Int.not_le, -Int.not_lt, -getElem?_pos, -List.getD_eq_getElem?_getD]
        · intro j hj; simp [-Bool.exists_bool, -Int.not_le, -Int.not_lt, -getElem?_pos, -List.getD_eq_getElem?_getD, setH, ownA_lt hj]
        · intro j hj; simp [-Bool.exists_bool, -Int.not_le, -Int.not_lt, -getElem?_pos, -List.getD_eq_getElem?_getD]
      · refine ⟨i + 1, ⟨h, bk (by simp [-Bool.exists_bool, -Int.not_le, -Int.not_lt, -getElem?_pos, -List.getD_eq_getElem?_getD, badA, hz, hp])⟩, by omega, ?_⟩
        rw [fn hv, wr (by omega) (by omega)]
        generalize (L.take i).filter hasV = K
        refine Le.fam 2 K (fun j => (2, j)) [] ?_ ?_ ?_ ?_ (fun i j _ _ h => by injection h) ?_
        · simp [-Bool.exists_bool, -Int.not_le, -Int.not_lt, -getElem?_pos, -List.getD_eq_getElem?_getD, invF]
        · simp [-Bool.exists_bool, -Int.not_le, -Int.not_lt, -getElem?_pos, -List.getD_eq_getElem?_getD, setH, ELe]
          exact rA_VLes K 0 (fun i _ => by simp [-Bool.exists_bool, -Int.not_le, -Int.not_lt, -getElem?_pos, -List.getD_eq_getElem?_getD, invF])
        · simp [-Bool.exists_bool, -Int.not_le, -Int.not_lt, -getElem?_pos, -List.getD_eq_getElem?_getD]
        · intro j hj; simp [-Bool.exists_bool, -Int.not_le, -Int.not_lt, -getElem?_pos, -List.getD_eq_getElem?_getD, setH, ownA_lt hj]
        · intro j hj; simp [-Bool.exists_bool, -Int.not_le, -Int.not_lt, -getElem?_pos, -List.getD_eq_getElem?_getD]
    · obtain rfl : i = L.length := by omega
      rw [List.take_length] at hb
      simp -implicitDefEqProofs -dsimp +contextual [-Bool.exists_bool, -Int.not_le, -Int.not_lt, -getElem?_pos, -List.getD_eq_getElem?_getD, h]
      have hKL : ∀ a ∈ L.filter hasV, a ∈ L ∧ hasV a = true := fun a ha => List.mem_filter.1 ha
      have hKn : (L.filter hasV).length ≤ 100000 := by have := List.length_filter_le hasV L; omega
      have hfine := sortFine (d := d) (K := L.filter hasV) (fun a ha => hL a (hKL a ha).1) (fun a ha => (hKL a ha).2) hKn
      have hperm := isort_perm cmpK (L.filter hasV)
      have hsort := isort_sorted cmpK (L.filter hasV) hfine.flip hfine.trans
      have hdd : nrm d L = ddN (isort cmpK (L.filter hasV)) := by
        rw [nrm, if_neg (by rw [hb]; simp [-Bool.exists_bool, -Int.not_le, -Int.not_lt, -getElem?_pos, -List.getD_eq_getElem?_getD])]
        refine (dd_nf d.toNat (L.filter hasV) _ (fun a ha => ?_) hperm hsort).symm
        obtain ⟨h1, h2⟩ := hKL a ha
        have h3 := hL a h1
        exact ⟨h3.1, by have := h3.2; omega, by simpa [-Bool.exists_bool, -Int.not_le, -Int.not_lt, -getElem?_pos, -List.getD_eq_getElem?_getD, hasV] using h2⟩
      have hSn := hperm.length_eq
      have hSok : ∀ a ∈ isort cmpK (L.filter hasV), okA d a := fun a ha => hL a (hKL a (hperm.mem_iff.1 ha)).1
      refine CallJ.sort 2 (1, 0) (L.filter hasV) cmpK hfine (by simp [-Bool.exists_bool, -Int.not_le, -Int.not_lt, -getElem?_pos, -List.getD_eq_getElem?_getD]) (fun j hj => by simp [-Bool.exists_bool, -Int.not_le, -Int.not_lt, -getElem?_pos, -List.getD_eq_getElem?_getD, ownA_lt hj]) (by simp [-Bool.exists_bool, -Int.not_le, -Int.not_lt, -getElem?_pos, -List.getD_eq_getElem?_getD]) (by simp [-Bool.exists_bool, -Int.not_le, -Int.not_lt, -getElem?_pos, -List.getD_eq_getElem?_getD]) (by simp [-Bool.exists_bool, -Int.not_le, -Int.not_lt, -getElem?_pos, -List.getD_eq_getElem?_getD]) ?_
      generalize isort cmpK (L.filter hasV) = S at hdd hSn hSok ⊢
      rw [← hSn] at hKn ⊢
      simp -implicitDefEqProofs -dsimp +contextual [-Bool.exists_bool, -Int.not_le, -Int.not_lt, -getElem?_pos, -List.getD_eq_getElem?_getD, h]
      refine WP.loop mixed [] (fun p : Nat × List Nat => ⟨tl [(0, I d), (4, .ptr (0, 0) 0), (5, .ref (1, 0) S.length), (8, .ptr (3, 0) 0), (46, .ref (1, 0) S.length), (47, I S.length), (48, I p.1)],
          famS 2 (ownA S) (hl [((0, 0), .box [I 0, .nil]), ((1, 0), .row 51 S.length (rA (fun j => (2, j)) 0 S)), ((3, 0), .box [I d, .ref (4, 0) p.2.length]), ((4, 0), .row 51 p.2.length (selA 2 S p.2))]), 5⟩)
        (fun p => p.1 ≤ S.length ∧ p.2.length ≤ p.1 ∧ ddN S = p.2.map (nth S) ++ ddN (S.drop p.1) ∧ p.2.Nodup ∧ ∀ j ∈ p.2, j < p.1) (fun p => S.length - p.1) (0, []) (by kernel_rfl) ?_ ?_ ?_
      · refine Le.trans (Le.nilBox (9, 0) 1 51 (c := [I d, .nil]) (by simp [-Bool.exists_bool, -Int.not_le, -Int.not_lt, -getElem?_pos, -List.getD_eq_getElem?_getD, setH]) rfl) (Le.fam 2 S (fun j => (5, j)) [((3, 0), (9, 0)), ((4, 0), (14, 0))] ?_ ?_ ?_ ?_ (fun i j _ _ h => by injection h) ?_)
        · simp [-Bool.exists_bool, -Int.not_le, -Int.not_lt, -getElem?_pos, -List.getD_eq_getElem?_getD, invF, hSn]
        · simp [-Bool.exists_bool, -Int.not_le, -Int.not_lt, -getElem?_pos, -List.getD_eq_getElem?_getD, setH, ELe, selA, rA, invF]
          exact rA_VLes S 0 (fun i _ => by simp [-Bool.exists_bool, -Int.not_le, -Int.not_lt, -getElem?_pos, -List.getD_eq_getElem?_getD, invF])
        · simp [-Bool.exists_bool, -Int.not_le, -Int.not_lt, -getElem?_pos, -List.getD_eq_getElem?_getD]
        · intro j hj; simp [-Bool.exists_bool, -Int.not_le, -Int.not_lt, -getElem?_pos, -List.getD_eq_getElem?_getD, setH, sortUp_j _ _ _ _ _ _ _ hj]
        · intro j hj; simp [-Bool.exists_bool, -Int.not_le, -Int.not_lt, -getElem?_pos, -List.getD_eq_getElem?_getD]
      · exact ⟨Nat.zero_le _, Nat.le_refl _, rfl, List.nodup_nil, fun j hj => by simp [-Bool.exists_bool, -Int.not_le, -Int.not_lt, -getElem?_pos, -List.getD_eq_getElem?_getD] at hj⟩
      · rintro ⟨i, sel⟩ ⟨hi2, hsl, hgo, hnd, hlt⟩
        simp only at hi2 hsl hgo hnd hlt
        by_cases h2 : i < S.length
        · have hu := okA.nu (hSok _ (nth_mem h2))
          have hw : IntKind.wrap .i64 ((i : Int) + 1) = (i : Int) + 1 := wr (by omega) (by omega)
          have ht : ((i : Int) + 1).toNat = i + 1 := by omega
          simp -implicitDefEqProofs -dsimp +contextual [-Bool.exists_bool, -Int.not_le, -Int.not_lt, -getElem?_pos, -List.getD_eq_getElem?_getD, h2, hw, ht, rA_cut0]
          refine ⟨fun h3 => ?_, fun h3 => ?_⟩
          · have h3' : i + 1 < S.length := by omega
            refine ⟨by omega, by omega, ?_⟩
            simp only [rA_cut0 _ S (i + 1) h3']
            have hu2 := okA.nu (hSok _ (nth_mem h3'))
            refine CallJ.lent (ks := [(2, i), (2, i + 1)]) 3 (iCompareDirections (nth S i) (nth S (i + 1)) hu hu2 (by have h4 := (hSok _ (nth_mem h2)).2; have h5 := (hSok _ (nth_mem h3')).2; omega)) (by simp [-Bool.exists_bool, -Int.not_le, -Int.not_lt, -getElem?_pos, -List.getD_eq_getElem?_getD, setH, ownA_lt h2, ownA_lt h3', rowA]) (by simp [-Bool.exists_bool, -Int.not_le, -Int.not_lt, -getElem?_pos, -List.getD_eq_getElem?_getD]) rfl (by simp [-Bool.exists_bool, -Int.not_le, -Int.not_lt, -getElem?_pos, -List.getD_eq_getElem?_getD]) ?_
            simp -implicitDefEqProofs -dsimp +contextual [-Bool.exists_bool, -Int.not_le, -Int.not_lt, -getElem?_pos, -List.getD_eq_getElem?_getD, h2, h3, hw]
            refine ⟨fun h4 => ?_, fun h4 => ?_⟩
            · refine ⟨i + 1, sel, ⟨h2, by omega, by rw [hgo, ddN_two h3', if_pos h4], hnd, fun j hj => by have := hlt j hj; omega⟩, by omega, ?_⟩
              refine Le.fam 2 S (fun j => (2, j)) [] ?_ ?_ ?_ ?_ (fun i j _ _ h => by injection h) ?_
              · simp [-Bool.exists_bool, -Int.not_le, -Int.not_lt, -getElem?_pos, -List.getD_eq_getElem?_getD, invF]
              · simp [-Bool.exists_bool, -Int.not_le, -Int.not_lt, -getElem?_pos, -List.getD_eq_getElem?_getD, setH, ELe, invF]
                exact ⟨rA_VLes S 0 (fun i _ => by simp [-Bool.exists_bool, -Int.not_le, -Int.not_lt, -getElem?_pos, -List.getD_eq_getElem?_getD, invF]), rA_VLes _ 0 (fun i _ => by simp [-Bool.exists_bool, -Int.not_le, -Int.not_lt, -getElem?_pos, -List.getD_eq_getElem?_getD, invF])⟩
              · simp [-Bool.exists_bool, -Int.not_le, -Int.not_lt, -getElem?_pos, -List.getD_eq_getElem?_getD]
              · intro j hj; simp [-Bool.exists_bool, -Int.not_le, -Int.not_lt, -getElem?_pos, -List.getD_eq_getElem?_getD, setH, ownA_lt hj]
              · intro j hj; simp [-Bool.exists_bool, -Int.not_le, -Int.not_lt, -getElem?_pos, -List.getD_eq_getElem?_getD]
            · refine ⟨⟨by omega, by simp [-Bool.exists_bool, -Int.not_le, -Int.not_lt, -getElem?_pos, -List.getD_eq_getElem?_getD, maxLen]; omega⟩, i + 1, sel ++ [i], ⟨h2, by simp [-Bool.exists_bool, -Int.not_le, -Int.not_lt, -getElem?_pos, -List.getD_eq_getElem?_getD]; omega, by rw [hgo, ddN_two h3', if_neg h4, List.map_append, List.append_assoc]; rfl, ?_, ?_⟩, by omega, ?_⟩
              · exact List.nodup_append.2 ⟨hnd, by simp [-Bool.exists_bool, -Int.not_le, -Int.not_lt, -getElem?_pos, -List.getD_eq_getElem?_getD], fun a ha b hb e => by obtain rfl := List.mem_singleton.1 hb; have := hlt a ha; omega⟩
              · intro j hj
                rcases List.mem_append.1 hj with hj | hj
                · have := hlt j hj; omega
                · obtain rfl := List.mem_singleton.1 hj; omega
              · refine Le.fam 2 S (fun j => (2, j)) [((4, 0), (31, 0))] ?_ ?_ ?_ ?_ (fun i j _ _ h => by injection h) ?_
                · simp [-Bool.exists_bool, -Int.not_le, -Int.not_lt, -getElem?_pos, -List.getD_eq_getElem?_getD, invF]
                · simp [-Bool.exists_bool, -Int.not_le, -Int.not_lt, -getElem?_pos, -List.getD_eq_getElem?_getD, setH, ELe, invF]
                  refine ⟨rA_VLes S 0 (fun i _ => by simp [-Bool.exists_bool, -Int.not_le, -Int.not_lt, -getElem?_pos, -List.getD_eq_getElem?_getD, invF]), ?_⟩
                  rw [selA_push]
                  exact VLes_app (rA_VLes _ 0 (fun i _ => by simp [-Bool.exists_bool, -Int.not_le, -Int.not_lt, -getElem?_pos, -List.getD_eq_getElem?_getD, invF])) (by simp [-Bool.exists_bool, -Int.not_le, -Int.not_lt, -getElem?_pos, -List.getD_eq_getElem?_getD, VLes, VLe, asDz, invF])
                · simp [-Bool.exists_bool, -Int.not_le, -Int.not_lt, -getElem?_pos, -List.getD_eq_getElem?_getD]
                · intro j hj; simp [-Bool.exists_bool, -Int.not_le, -Int.not_lt, -getElem?_pos, -List.getD_eq_getElem?_getD, setH, ownA_lt hj]
                · intro j hj; simp [-Bool.exists_bool, -Int.not_le, -Int.not_lt, -getElem?_pos, -List.getD_eq_getElem?_getD]
          · have h3' : ¬ i + 1 < S.length := by omega
            refine ⟨⟨by omega, by simp [-Bool.exists_bool, -Int.not_le, -Int.not_lt, -getElem?_pos, -List.getD_eq_getElem?_getD, maxLen]; omega⟩, i + 1, sel ++ [i], ⟨h2, by simp [-Bool.exists_bool, -Int.not_le, -Int.not_lt, -getElem?_pos, -List.getD_eq_getElem?_getD]; omega, by rw [hgo, ddN_one h2 h3', drop_nil (by omega : S.length ≤ i + 1), List.map_append, List.append_assoc]; rfl, ?_, ?_⟩, by omega, ?_⟩
            · exact List.nodup_append.2 ⟨hnd, by simp [-Bool.exists_bool, -Int.not_le, -Int.not_lt, -getElem?_pos, -List.getD_eq_getElem?_getD], fun a ha b hb e => by obtain rfl := List.mem_singleton.1 hb; have := hlt a ha; omega⟩
            · intro j hj
              rcases List.mem_append.1 hj with hj | hj
              · have := hlt j hj; omega
              · obtain rfl := List.mem_singleton.1 hj; omega
            · refine Le.fam 2 S (fun j => (2, j)) [((4, 0), (31, 0))] ?_ ?_ ?_ ?_ (fun i j _ _ h => by injection h) ?_
              · simp [-Bool.exists_bool, -Int.not_le, -Int.not_lt, -getElem?_pos, -List.getD_eq_getElem?_getD, invF]
              · simp [-Bool.exists_bool, -Int.not_le, -Int.not_lt, -getElem?_pos, -List.getD_eq_getElem?_getD, setH, ELe, invF]
                refine ⟨rA_VLes S 0 (fun i _ => by simp [-Bool.exists_bool, -Int.not_le, -Int.not_lt, -getElem?_pos, -List.getD_eq_getElem?_getD, invF]), ?_⟩
                rw [selA_push]
                exact VLes_app (rA_VLes _ 0 (fun i _ => by simp [-Bool.exists_bool, -Int.not_le, -Int.not_lt, -getElem?_pos, -List.getD_eq_getElem?_getD, invF])) (by simp [-Bool.exists_bool, -Int.not_le, -Int.not_lt, -getElem?_pos, -List.getD_eq_getElem?_getD, VLes, VLe, asDz, invF])
              · simp [-Bool.exists_bool, -Int.not_le, -Int.not_lt, -getElem?_pos, -List.getD_eq_getElem?_getD]
              · intro j hj; simp [-Bool.exists_bool, -Int.not_le, -Int.not_lt, -getElem?_pos, -List.getD_eq_getElem?_getD, setH, ownA_lt hj]
              · intro j hj; simp [-Bool.exists_bool, -Int.not_le, -Int.not_lt, -getElem?_pos, -List.getD_eq_getElem?_getD]
        · rw [drop_nil (by omega)] at hgo
          have hgo' : nrm d L = sel.map (nth S) := by rw [hdd, hgo]; simp [-Bool.exists_bool, -Int.not_le, -Int.not_lt, -getElem?_pos, -List.getD_eq_getElem?_getD, ddN]
          simp -implicitDefEqProofs -dsimp +contextual [-Bool.exists_bool, -Int.not_le, -Int.not_lt, -getElem?_pos, -List.getD_eq_getElem?_getD, h2]
          rw [hgo']
          refine RLe.own (4, 0) (fun j => (2, nth sel j)) (sel.map (nth S)) ?_ ?_ ?_ ?_ ?_
          · simp [-Bool.exists_bool, -Int.not_le, -Int.not_lt, -getElem?_pos, -List.getD_eq_getElem?_getD, invO]
          · simp [-Bool.exists_bool, -Int.not_le, -Int.not_lt, -getElem?_pos, -List.getD_eq_getElem?_getD, setH, selA]
          · intro j hj
            have hj' : j < sel.length := by simpa [-Bool.exists_bool, -Int.not_le, -Int.not_lt, -getElem?_pos, -List.getD_eq_getElem?_getD] using hj
            have := hlt _ (nth_mem hj')
            simp [-Bool.exists_bool, -Int.not_le, -Int.not_lt, -getElem?_pos, -List.getD_eq_getElem?_getD, setH, nth_map (nth S) hj', ownA_lt (show nth sel j < S.length by omega)]
          · intro a b ha hb e
            have ha' : a < sel.length := by simpa [-Bool.exists_bool, -Int.not_le, -Int.not_lt, -getElem?_pos, -List.getD_eq_getElem?_getD] using ha
            have hb' : b < sel.length := by simpa [-Bool.exists_bool, -Int.not_le, -Int.not_lt, -getElem?_pos, -List.getD_eq_getElem?_getD] using hb
            have e2 : nth sel a = nth sel b := by injection e
            rw [nth_eq ha', nth_eq hb'] at e2
            have hp := List.pairwise_iff_getElem.1 hnd
            rcases Nat.lt_trichotomy a b with h1 | h1 | h1
            · exact absurd e2 (hp a b ha' hb' h1)
            · exact h1
            · exact absurd e2.symm (hp b a hb' ha' h1)
          · intro j _; simp [-Bool.exists_bool, -Int.not_le, -Int.not_lt, -getElem?_pos, -List.getD_eq_getElem?_getD]
end Go.Proofs.Ytjknjekemolndaa.ZL
namespace Go.Proofs.Ytjknjekemolndaa.ZL
open Go Go.Proofs.Ytjknjekemolndaa.Abs Go.Proofs.Ytjknjekemolndaa.Abs.Pl Go.RowKit Go.Proofs
set_option linter.unusedVariables false
set_option linter.unusedSimpArgs false
def oV (r : Int × List At × Bool) : V := if r.2.2 = true then .tup [O1 r.1 r.2.1, B true] else .tup [.agg [I 0, .nil], B false]
def oH (r : Int × List At × Bool) : Store := if r.2.2 = true then ownR r.2.1 else hemp
theorem oV_t {r : Int × List At × Bool} (h : r.2.2 = true) : oV r = .tup [O1 r.1 r.2.1, B true] := if_pos h
theorem oV_f {r : Int × List At × Bool} (h : ¬ r.2.2 = true) : oV r = .tup [.agg [I 0, .nil], B false] := if_neg h
theorem oH_t {r : Int × List At × Bool} (h : r.2.2 = true) : oH r = ownR r.2.1 := if_pos h
theorem oH_f {r : Int × List At × Bool} (h : ¬ r.2.2 = true) : oH r = hemp := if_neg h
theorem Cn.weak {f : Nat} {vs : List V} {r : Int × List At × Bool} (h0 : ¬ r.2.2 = true → r = (0, [], false)) (h : Cn Try.prog f vs (oV r) (oH r)) : Cn Try.prog f vs (D2 r) hemp := by
  by_cases hr : r.2.2 = true
  · rw [oV_t hr, oH_t hr] at h
    refine Cn.freeze 2 h ?_
    simp only [lendT, lendVs, lendV, List.map_cons, List.map_nil, joinO, own_lend, lendD_d, hr, D2]
  · rw [oV_f hr, oH_f hr] at h
    rw [h0 hr]
    refine Cn.freeze 2 h ?_
    simp only [lendT, lendVs, lendV, List.map_cons, List.map_nil, joinO, lendD_d, lendD_nil, D2]
    rfl
theorem iLimitedNormal (d : Int) (hd : 0 ≤ d ∧ d ≤ 4) (L : List At) (h100 : L.length ≤ 100000) (hL : allOk d L) : Cn Try.prog 66 [I d, As L] (oV (limN d L)) (oH (limN d L)) := by
  refine Cn.of [] mixed Try.func66 rfl Try.call66 (by kernel_rfl) rfl ?_
  simp -implicitDefEqProofs -dsimp +contextual [-Bool.exists_bool, -Int.not_le, -Int.not_lt, -getElem?_pos, -List.getD_eq_getElem?_getD, Try.f66]
  refine CallJ.pure (iNormalOf d hd L h100 hL) rfl (by simp [-Bool.exists_bool, -Int.not_le, -Int.not_lt, -getElem?_pos, -List.getD_eq_getElem?_getD]) ?_
  simp -implicitDefEqProofs -dsimp +contextual [-Bool.exists_bool, -Int.not_le, -Int.not_lt, -getElem?_pos, -List.getD_eq_getElem?_getD]
  refine ⟨fun h => ?_, fun h => ?_⟩
  · rw [limN, if_pos (by omega)]
    rw [oV_f (by simp [-Bool.exists_bool, -Int.not_le, -Int.not_lt, -getElem?_pos, -List.getD_eq_getElem?_getD]), oH_f (by simp [-Bool.exists_bool, -Int.not_le, -Int.not_lt, -getElem?_pos, -List.getD_eq_getElem?_getD])]
    exact RLe.emp (by simp [-Bool.exists_bool, -Int.not_le, -Int.not_lt, -getElem?_pos, -List.getD_eq_getElem?_getD])
  · rw [limN, if_neg (by omega)]
    rw [oV_t rfl, oH_t rfl]
    refine RLe.own (4, 0) (fun j => (4, j + 1)) (nrm d L) ?_ ?_ ?_ ?_ ?_
    · simp [-Bool.exists_bool, -Int.not_le, -Int.not_lt, -getElem?_pos, -List.getD_eq_getElem?_getD, invO]
    · simp [-Bool.exists_bool, -Int.not_le, -Int.not_lt, -getElem?_pos, -List.getD_eq_getElem?_getD, setH]
    · intro j hj; simp [-Bool.exists_bool, -Int.not_le, -Int.not_lt, -getElem?_pos, -List.getD_eq_getElem?_getD, setH, upOwn_j _ _ _ _ hj]
    · intro i j _ _; simp [-Bool.exists_bool, -Int.not_le, -Int.not_lt, -getElem?_pos, -List.getD_eq_getElem?_getD]
    · intro j _; simp [-Bool.exists_bool, -Int.not_le, -Int.not_lt, -getElem?_pos, -List.getD_eq_getElem?_getD]
def dropD (d : Int) (L : List At) (v : Int) : Int × List At × Bool := if isCe d L = true ∧ 0 ≤ v ∧ v < d then dropC d v.toNat L else (0, [], false)
theorem limN_f {d : Int} {M : List At} (h : ¬ (limN d M).2.2 = true) : limN d M = (0, [], false) := by
  unfold limN at h ⊢
  split
  · rfl
  · rename_i h2; rw [if_neg h2] at h; exact absurd rfl h
theorem dropC_f {d : Int} {v : Nat} {L : List At} (h : ¬ (dropC d v L).2.2 = true) : dropC d v L = (0, [], false) := by
  unfold dropC at h ⊢
  split
  · rfl
  · rename_i M e; rw [e] at h; exact limN_f h
theorem dropD_f {d : Int} {v : Int} {L : List At} (h : ¬ (dropD d L v).2.2 = true) : dropD d L v = (0, [], false) := by
  unfold dropD at h ⊢
  split
  · rename_i h2; rw [if_pos h2] at h; exact dropC_f h
  · rfl
set_option maxRecDepth 100000 in
theorem iDropVariable (d : Int) (v : Int) (L : List At) (h20 : L.length ≤ 1048576) : Cn Try.prog 38 [C1 d L, I v] (oV (dropD d L v)) (oH (dropD d L v)) := by
  refine Cn.of [] mixed Try.func38 rfl Try.call38 (by kernel_rfl) rfl ?_
  simp -implicitDefEqProofs -dsimp +contextual [-Bool.exists_bool, -Int.not_le, -Int.not_lt, -getElem?_pos, -List.getD_eq_getElem?_getD, Try.f38]
  refine CallJ.pure (iIsCell d L h20) rfl (by simp [-Bool.exists_bool, -Int.not_le, -Int.not_lt, -getElem?_pos, -List.getD_eq_getElem?_getD]) ?_
  simp -implicitDefEqProofs -dsimp +contextual [-Bool.exists_bool, -Int.not_le, -Int.not_lt, -getElem?_pos, -List.getD_eq_getElem?_getD]
  have no : ∀ {H : Store}, ¬ (isCe d L = true ∧ 0 ≤ v ∧ v < d) → RLe Try.prog H (V.tup [V.agg [V.d (D.int IntKind.i64 0), V.nil], V.d (D.bool false)]) (oV (dropD d L v)) (oH (dropD d L v)) := fun h => by
    rw [dropD, if_neg h, oV_f (by simp [-Bool.exists_bool, -Int.not_le, -Int.not_lt, -getElem?_pos, -List.getD_eq_getElem?_getD]), oH_f (by simp [-Bool.exists_bool, -Int.not_le, -Int.not_lt, -getElem?_pos, -List.getD_eq_getElem?_getD])]
    exact RLe.emp (by simp [-Bool.exists_bool, -Int.not_le, -Int.not_lt, -getElem?_pos, -List.getD_eq_getElem?_getD])
  refine ⟨fun hc => ⟨fun h0 => no (by omega), fun h0 => ⟨fun h1 => no (by omega), fun h1 => ?_⟩⟩, fun hc => no (by simp [-Bool.exists_bool, -Int.not_le, -Int.not_lt, -getElem?_pos, -List.getD_eq_getElem?_getD, hc])⟩
  have hd := isCe_d hc
  have h16 := isCe_l hc
  have hL := isCe_a hc
  obtain ⟨v, rfl⟩ : ∃ n : Nat, v = n := ⟨v.toNat, by omega⟩
  have hv : (v : Int) < d := by omega
  rw [dropD, if_pos ⟨hc, by omega, hv⟩, Int.toNat_natCast]
  refine WP.loop mixed [] (fun i : Nat => ⟨tl [(1, I v), (2, .ptr (0, 0) 0), (4, .ptr (1, 0) 0), (6, .ref (6, 0) ((L.take i).filter (free v)).length), (31, As L), (32, I L.length), (33, I i)], hl [((0, 0), .box [I d, As L]), ((1, 0), .box [I 0, .nil]), ((6, 0), .row 51 ((L.take i).filter (free v)).length (dl (asD ((L.take i).filter (free v)))))], 7⟩) (fun i => i ≤ L.length) (fun i => L.length - i) 0 (by kernel_rfl) ?_ ?_ ?_
  · refine Le.trans (Le.nil 6 51 (by simp [-Bool.exists_bool, -Int.not_le, -Int.not_lt, -getElem?_pos, -List.getD_eq_getElem?_getD])) (Le.told [((6, 0), (22, 0))] ?_ ?_ ?_) <;> simp [-Bool.exists_bool, -Int.not_le, -Int.not_lt, -getElem?_pos, -List.getD_eq_getElem?_getD, setH, asD]
  · simp [-Bool.exists_bool, -Int.not_le, -Int.not_lt, -getElem?_pos, -List.getD_eq_getElem?_getD]
  · intro i hi
    by_cases h : i < L.length
    · have hn := hL _ (nth_mem h)
      have hvl : v < (nth L i).1.length := by have := hn.2; omega
      simp -implicitDefEqProofs -dsimp +contextual [-Bool.exists_bool, -Int.not_le, -Int.not_lt, -getElem?_pos, -List.getD_eq_getElem?_getD, h, hvl]
      have fl := List.length_filter_le (free v) (L.take i)
      have fl2 : (L.take i).length ≤ i := by simp [-Bool.exists_bool, -Int.not_le, -Int.not_lt, -getElem?_pos, -List.getD_eq_getElem?_getD]; omega
      refine ⟨fun hz => ⟨⟨by omega, by simp [-Bool.exists_bool, -Int.not_le, -Int.not_lt, -getElem?_pos, -List.getD_eq_getElem?_getD, maxLen]; omega⟩, i + 1, h, by omega, ?_⟩, fun hz => ⟨i + 1, h, by omega, ?_⟩⟩
      · have hf : free v (nth L i) = true := decide_eq_true hz
        have e : (L.take (i + 1)).filter (free v) = (L.take i).filter (free v) ++ [nth L i] := by rw [nth_take h, List.filter_append, List.filter_cons_of_pos hf]; rfl
        rw [wr (by omega) (by omega)]
        refine Le.told [((6, 0), (21, 0))] ?_ ?_ ?_ <;> simp [-Bool.exists_bool, -Int.not_le, -Int.not_lt, -getElem?_pos, -List.getD_eq_getElem?_getD, e, asD_append, asD_one, aD]
      · have hf : ¬ free v (nth L i) = true := fun e => hz (of_decide_eq_true e)
        have e : (L.take (i + 1)).filter (free v) = (L.take i).filter (free v) := by rw [nth_take h, List.filter_append, List.filter_cons_of_neg hf]; simp [-Bool.exists_bool, -Int.not_le, -Int.not_lt, -getElem?_pos, -List.getD_eq_getElem?_getD]
        rw [wr (by omega) (by omega)]
        refine Le.told [] ?_ ?_ ?_ <;> simp [-Bool.exists_bool, -Int.not_le, -Int.not_lt, -getElem?_pos, -List.getD_eq_getElem?_getD, e]
    · obtain rfl : i = L.length := by omega
      simp -implicitDefEqProofs -dsimp +contextual [-Bool.exists_bool, -Int.not_le, -Int.not_lt, -getElem?_pos, -List.getD_eq_getElem?_getD, h]
      refine WP.loopF mixed [] (fun p : Nat × List At => ⟨tl [(1, I v), (2, .ptr (0, 0) 0), (4, .ptr (1, 0) 0), (6, .ref (6, 0) p.2.length), (49, As L), (50, I L.length), (51, I p.1)], hl [((0, 0), .box [I d, As L]), ((1, 0), .box [I 0, .nil]), ((6, 0), .row 51 p.2.length (dl (asD p.2)))], 7⟩)
        (fun p => p.1 ≤ L.length ∧ allOk d p.2 ∧ p.2.length ≤ 16 + 16 * p.1 ∧ dropGo v L L (L.filter (free v)) = dropGo v L (L.drop p.1) p.2) (fun p => L.length - p.1) (0, L.filter (free v)) (by kernel_rfl) ?_ ?_ ?_
      · refine Le.told [] ?_ ?_ ?_ <;> simp [-Bool.exists_bool, -Int.not_le, -Int.not_lt, -getElem?_pos, -List.getD_eq_getElem?_getD]
      · have := List.length_filter_le (free v) L
        exact ⟨Nat.zero_le _, fun x hx => hL x (List.mem_filter.1 hx).1, by simp only; omega, rfl⟩
      · rintro ⟨i, acc⟩ ⟨hi, hac, hlen, he⟩
        simp only at hi hac hlen he
        by_cases h : i < L.length
        · refine ⟨_, Le.refl _ _ _, ?_⟩
          have hn := hL _ (nth_mem h)
          have hvl : v < (nth L i).1.length := by have := hn.2; omega
          simp -implicitDefEqProofs -dsimp +contextual [-Bool.exists_bool, -Int.not_le, -Int.not_lt, -getElem?_pos, -List.getD_eq_getElem?_getD, h, hvl]
          rw [nth_drop h, dropGo] at he
          refine ⟨fun hx => ⟨i + 1, acc, ⟨h, hac, by omega, ?_⟩, by omega, ?_⟩, fun hx => ?_⟩
          · have hx' : (nth L i).1.getD v 0 ≤ 0 := hx
            rw [he, if_pos hx']
          · rw [wr (by omega) (by omega)]
            refine Le.told [] ?_ ?_ ?_ <;> simp [-Bool.exists_bool, -Int.not_le, -Int.not_lt, -getElem?_pos, -List.getD_eq_getElem?_getD]
          have hx' : ¬ (nth L i).1.getD v 0 ≤ 0 := hx
          rw [if_neg hx'] at he
          refine WP.loop mixed [] (fun p : Nat × List At => ⟨tl [(1, I v), (2, .ptr (0, 0) 0), (4, .ptr (1, 0) 0), (6, .ref (6, 0) p.2.length), (10, .ptr (7, 0) 0), (49, As L), (50, I L.length), (51, I i), (62, As L), (63, I L.length), (64, I p.1)], hl [((0, 0), .box [I d, As L]), ((1, 0), .box [I 0, .nil]), ((6, 0), .row 51 p.2.length (dl (asD p.2))), ((7, 0), .box (aV (nth L i)))], 8⟩)
            (fun p => p.1 ≤ L.length ∧ allOk d p.2 ∧ p.2.length ≤ acc.length + p.1 ∧ dropGo v L L (L.filter (free v)) = (mixGo v (nth L i) (L.drop p.1) p.2).bind (dropGo v L (L.drop (i + 1)))) (fun p => L.length - p.1) (0, acc) (by kernel_rfl) ?_ ?_ ?_
          · refine Le.told [((7, 0), (10, 0))] ?_ ?_ ?_ <;> simp [-Bool.exists_bool, -Int.not_le, -Int.not_lt, -getElem?_pos, -List.getD_eq_getElem?_getD]
          · exact ⟨Nat.zero_le _, hac, by simp [-Bool.exists_bool, -Int.not_le, -Int.not_lt, -getElem?_pos, -List.getD_eq_getElem?_getD], he⟩
          · rintro ⟨j, acc2⟩ ⟨hj, hac2, hlen2, he2⟩
            simp only at hj hac2 hlen2 he2
            by_cases h2 : j < L.length
            · have hm := hL _ (nth_mem h2)
              have hvm : v < (nth L j).1.length := by have := hm.2; omega
              simp -implicitDefEqProofs -dsimp +contextual [-Bool.exists_bool, -Int.not_le, -Int.not_lt, -getElem?_pos, -List.getD_eq_getElem?_getD, h, hvl, h2, hvm]
              rw [nth_drop h2, mixGo] at he2
              refine ⟨fun hy => ⟨j + 1, acc2, ⟨h2, hac2, by omega, ?_⟩, by omega, ?_⟩, fun hy => ?_⟩
              · have hy' : 0 ≤ (nth L j).1.getD v 0 := hy
                rw [he2, if_pos hy']
              · rw [wr (by omega) (by omega)]
                refine Le.told [] ?_ ?_ ?_ <;> simp [-Bool.exists_bool, -Int.not_le, -Int.not_lt, -getElem?_pos, -List.getD_eq_getElem?_getD]
              · have ci : nth (nth L i).1 v = (nth L i).1.getD v 0 := rfl
                have cj : nth (nth L j).1 v = (nth L j).1.getD v 0 := rfl
                have bj := coef_bd hm v
                have bi := coef_bd hn v
                rw [ci, cj, wr (by omega) (by omega)]
                refine CallJ.pure (iMixAtoms (nth L i) (-(nth L j).1.getD v 0) (nth L j) ((nth L i).1.getD v 0)) rfl (by simp [-Bool.exists_bool, -Int.not_le, -Int.not_lt, -getElem?_pos, -List.getD_eq_getElem?_getD]) ?_
                simp -implicitDefEqProofs -dsimp +contextual [-Bool.exists_bool, -Int.not_le, -Int.not_lt, -getElem?_pos, -List.getD_eq_getElem?_getD]
                have hy' : ¬ 0 ≤ (nth L j).1.getD v 0 := hy
                rw [if_neg hy'] at he2
                have hok : (mixAt (nth L i).1 (nth L i).2.1 (nth L i).2.2 (-(nth L j).1.getD v 0) (nth L j).1 (nth L j).2.1 (nth L j).2.2 ((nth L i).1.getD v 0)).2.2.2 = true → _ := mixAt_ok hn hm
                generalize mixAt (nth L i).1 (nth L i).2.1 (nth L i).2.2 (-(nth L j).1.getD v 0) (nth L j).1 (nth L j).2.1 (nth L j).2.2 ((nth L i).1.getD v 0) = r at hok he2 ⊢
                obtain ⟨rc, rk, rs, ro⟩ := r
                simp only at hok he2 ⊢
                refine ⟨fun hf => ?_, fun ht => ?_⟩
                · have ho := hok hf
                  refine ⟨⟨by omega, by simp [-Bool.exists_bool, -Int.not_le, -Int.not_lt, -getElem?_pos, -List.getD_eq_getElem?_getD, maxLen]; omega⟩, j + 1, acc2 ++ [(rc, rk, rs)], ⟨h2, ?_, by simp [-Bool.exists_bool, -Int.not_le, -Int.not_lt, -getElem?_pos, -List.getD_eq_getElem?_getD]; omega, ?_⟩, by omega, ?_⟩
                  · intro x hx2
                    rcases List.mem_append.1 hx2 with hx2 | hx2
                    · exact hac2 x hx2
                    · obtain rfl := List.mem_singleton.1 hx2; exact ho
                  · rw [he2, if_pos hf]
                  · rw [wr (by omega) (by omega)]
                    refine Le.told [((6, 0), (44, 0))] ?_ ?_ ?_ <;> simp [-Bool.exists_bool, -Int.not_le, -Int.not_lt, -getElem?_pos, -List.getD_eq_getElem?_getD, asD_append, asD_one, aD]
                · have e : dropC d v L = (0, [], false) := by rw [dropC, he2, if_neg (by rw [ht]; simp [-Bool.exists_bool, -Int.not_le, -Int.not_lt, -getElem?_pos, -List.getD_eq_getElem?_getD])]; rfl
                  rw [e, oV_f (by simp [-Bool.exists_bool, -Int.not_le, -Int.not_lt, -getElem?_pos, -List.getD_eq_getElem?_getD]), oH_f (by simp [-Bool.exists_bool, -Int.not_le, -Int.not_lt, -getElem?_pos, -List.getD_eq_getElem?_getD])]
                  exact RLe.emp (by simp [-Bool.exists_bool, -Int.not_le, -Int.not_lt, -getElem?_pos, -List.getD_eq_getElem?_getD])
            · simp -implicitDefEqProofs -dsimp +contextual [-Bool.exists_bool, -Int.not_le, -Int.not_lt, -getElem?_pos, -List.getD_eq_getElem?_getD, h2]
              rw [drop_nil (by omega : L.length ≤ j)] at he2
              refine ⟨i + 1, acc2, ⟨h, hac2, by omega, ?_⟩, by omega, ?_⟩
              · rw [he2]; rfl
              · rw [wr (by omega) (by omega)]
                refine Le.told [] ?_ ?_ ?_ <;> simp [-Bool.exists_bool, -Int.not_le, -Int.not_lt, -getElem?_pos, -List.getD_eq_getElem?_getD]
        · obtain rfl : i = L.length := by omega
          rw [drop_nil (Nat.le_refl _)] at he
          have he' : dropGo v L L (L.filter (free v)) = some acc := he
          have ec : dropC d v L = limN d acc := by rw [dropC, he']
          refine ⟨⟨tl [(1, I v), (2, .ptr (0, 0) 0), (4, .ptr (1, 0) 0), (6, .ref (6, 0) acc.length), (49, As L), (50, I L.length), (51, I L.length)], hl [((0, 0), .box [I d, As L]), ((1, 0), .box [I 0, .nil]), ((6, 0), .fz acc.length (asD acc))], 7⟩, ?_, ?_⟩
          · refine Le.told [] ?_ ?_ ?_ <;> simp [-Bool.exists_bool, -Int.not_le, -Int.not_lt, -getElem?_pos, -List.getD_eq_getElem?_getD]
          simp -implicitDefEqProofs -dsimp +contextual [-Bool.exists_bool, -Int.not_le, -Int.not_lt, -getElem?_pos, -List.getD_eq_getElem?_getD, h]
          rw [ec]
          have hlim := iLimitedNormal d hd acc (by omega) hac
          by_cases hb : (limN d acc).2.2 = true
          · rw [oV_t hb, oH_t hb] at hlim ⊢
            refine CallJ.pure (ks := [(6, 0)]) hlim (by simp [-Bool.exists_bool, -Int.not_le, -Int.not_lt, -getElem?_pos, -List.getD_eq_getElem?_getD]) (by simp [-Bool.exists_bool, -Int.not_le, -Int.not_lt, -getElem?_pos, -List.getD_eq_getElem?_getD]) ?_
            simp -implicitDefEqProofs -dsimp +contextual [-Bool.exists_bool, -Int.not_le, -Int.not_lt, -getElem?_pos, -List.getD_eq_getElem?_getD, h]
            refine RLe.own (11, 0) (fun j => (11, j + 1)) (limN d acc).2.1 ?_ ?_ ?_ ?_ ?_
            · simp [-Bool.exists_bool, -Int.not_le, -Int.not_lt, -getElem?_pos, -List.getD_eq_getElem?_getD, invO]
            · simp [-Bool.exists_bool, -Int.not_le, -Int.not_lt, -getElem?_pos, -List.getD_eq_getElem?_getD, setH]
            · intro j hj; simp [-Bool.exists_bool, -Int.not_le, -Int.not_lt, -getElem?_pos, -List.getD_eq_getElem?_getD, setH, upOwn_j _ _ _ _ hj]
            · intro i j _ _; simp [-Bool.exists_bool, -Int.not_le, -Int.not_lt, -getElem?_pos, -List.getD_eq_getElem?_getD]
            · intro j _; simp [-Bool.exists_bool, -Int.not_le, -Int.not_lt, -getElem?_pos, -List.getD_eq_getElem?_getD]
          · rw [oV_f hb, oH_f hb] at hlim ⊢
            refine CallJ.pure (ks := [(6, 0)]) hlim (by simp [-Bool.exists_bool, -Int.not_le, -Int.not_lt, -getElem?_pos, -List.getD_eq_getElem?_getD]) (by simp [-Bool.exists_bool, -Int.not_le, -Int.not_lt, -getElem?_pos, -List.getD_eq_getElem?_getD]) ?_
            simp -implicitDefEqProofs -dsimp +contextual [-Bool.exists_bool, -Int.not_le, -Int.not_lt, -getElem?_pos, -List.getD_eq_getElem?_getD, h]
            exact RLe.emp (by simp [-Bool.exists_bool, -Int.not_le, -Int.not_lt, -getElem?_pos, -List.getD_eq_getElem?_getD])
end Go.Proofs.Ytjknjekemolndaa.ZL
namespace Go.Proofs.Ytjknjekemolndaa.ZL
open Go Go.Proofs.Ytjknjekemolndaa.Abs Go.Proofs.Ytjknjekemolndaa.Abs.Pl Go.RowKit Go.Proofs
set_option linter.unusedVariables false
set_option linter.unusedSimpArgs false
theorem iNormalW (d : Int) (hd : 0 ≤ d ∧ d ≤ 4) (L : List At) (h100 : L.length ≤ 100000) (hL : allOk d L) : Cn Try.prog 37 [I d, As L] (C1 d (nrm d L)) hemp := by
  refine Cn.freeze 2 (iNormalOf d hd L h100 hL) ?_
  simp only [lendT, lendV, List.map_cons, List.map_nil, joinO, own_lend, lendD_d]
theorem iDropW (d : Int) (v : Int) (L : List At) (h20 : L.length ≤ 1048576) : Cn Try.prog 38 [C1 d L, I v] (D2 (dropD d L v)) hemp := Cn.weak dropD_f (iDropVariable d v L h20)
def chain (d : Int) : Nat → List At → Option (List Ce)
  | 0, L => some [(d, L)]
  | n + 1, L => if (dropC d n L).2.2 = true then (chain d n (dropC d n L).2.1).map (· ++ [(d, L)]) else none
theorem chain_elim (d : Int) : ∀ (n : Nat) (L : List At), (chain d n L).map (fun Z => (nth Z 0).2) = elim d n L
  | 0, L => rfl
  | n + 1, L => by
    unfold chain elim
    by_cases h : (dropC d n L).2.2 = true
    · rw [if_pos h, if_pos h, ← chain_elim d n]
      cases hc : chain d n (dropC d n L).2.1 with
      | none => rfl
      | some Z =>
        have hz : 0 < Z.length := by
          cases n with
          | zero => unfold chain at hc; obtain rfl := Option.some.inj hc; simp [-Bool.exists_bool, -Int.not_le, -Int.not_lt, -getElem?_pos, -List.getD_eq_getElem?_getD]
          | succ n =>
            unfold chain at hc
            split at hc
            · cases h2 : chain d n (dropC d n (dropC d (n + 1) L).2.1).2.1 with
              | none => rw [h2] at hc; simp [-Bool.exists_bool, -Int.not_le, -Int.not_lt, -getElem?_pos, -List.getD_eq_getElem?_getD] at hc
              | some W => rw [h2] at hc; obtain rfl := Option.some.inj hc; simp [-Bool.exists_bool, -Int.not_le, -Int.not_lt, -getElem?_pos, -List.getD_eq_getElem?_getD]
            · simp [-Bool.exists_bool, -Int.not_le, -Int.not_lt, -getElem?_pos, -List.getD_eq_getElem?_getD] at hc
        simp [-Bool.exists_bool, -Int.not_le, -Int.not_lt, -getElem?_pos, -List.getD_eq_getElem?_getD, nth_app hz]
    · rw [if_neg h, if_neg h]; rfl
def projs (d : Int) (L : List At) : Option (List Ce) := if isCe d L = true then chain d d.toNat (nrm d L) else none
def pV (r : Option (List Ce)) : V := match r with
  | none => .tup [.nil, B false]
  | some Z => .tup [Cs Z, B true]
def zs (m : Nat) (d : Int) (R : List At) (Y : List Ce) : List Ce := List.replicate m (0, []) ++ (d, R) :: Y
theorem zs_nth (m : Nat) (d : Int) (R : List At) (Y : List Ce) : nth (zs m d R Y) m = (d, R) := by
  have := nth_eq (l := zs m d R Y) (i := m) (by simp [-Bool.exists_bool, -Int.not_le, -Int.not_lt, -getElem?_pos, -List.getD_eq_getElem?_getD, zs])
  rw [this]
  simp [-Bool.exists_bool, -Int.not_le, -Int.not_lt, -getElem?_pos, -List.getD_eq_getElem?_getD, zs]
theorem zs_len (m : Nat) (d : Int) (R : List At) (Y : List Ce) : (zs m d R Y).length = m + 1 + Y.length := by simp [-Bool.exists_bool, -Int.not_le, -Int.not_lt, -getElem?_pos, -List.getD_eq_getElem?_getD, zs]; omega
theorem zs_step (n : Nat) (d : Int) (R S : List At) (Y : List Ce) : (zs (n + 1) d R Y).take n ++ (d, S) :: (zs (n + 1) d R Y).drop (n + 1) = zs n d S ((d, R) :: Y) := by
  simp [-Bool.exists_bool, -Int.not_le, -Int.not_lt, -getElem?_pos, -List.getD_eq_getElem?_getD, zs, List.replicate_succ', List.take_append, List.drop_append]
theorem rep2_len (n : Nat) (a b : V) : (repV n [a, b]).length = n * 2 := by simp [-Bool.exists_bool, -Int.not_le, -Int.not_lt, -getElem?_pos, -List.getD_eq_getElem?_getD, repV]
theorem rep2_succ (n : Nat) (a b : V) : repV (n + 1) [a, b] = repV n [a, b] ++ [a, b] := by
  refine List.ext_getElem? fun i => ?_
  by_cases h : i < n * 2
  · rw [List.getElem?_append_left (by rw [rep2_len]; exact h)]
    have h2 : i < (n + 1) * 2 := by omega
    simp [-Bool.exists_bool, -Int.not_le, -Int.not_lt, -getElem?_pos, -List.getD_eq_getElem?_getD, repV, List.getElem?_range h, List.getElem?_range h2]
  · rw [List.getElem?_append_right (by rw [rep2_len]; omega), rep2_len]
    by_cases h0 : i = n * 2
    · subst h0; simp [-Bool.exists_bool, -Int.not_le, -Int.not_lt, -getElem?_pos, -List.getD_eq_getElem?_getD, repV, List.getElem?_range (show n * 2 < (n + 1) * 2 by omega)]
    · by_cases h1 : i = n * 2 + 1
      · subst h1
        have h2 : n * 2 + 1 < (n + 1) * 2 := by omega
        have h3 : (n * 2 + 1) % 2 = 1 := by omega
        have h4 : n * 2 + 1 - n * 2 = 1 := by omega
        simp [-Bool.exists_bool, -Int.not_le, -Int.not_lt, -getElem?_pos, -List.getD_eq_getElem?_getD, repV, List.getElem?_range h2, h3, h4]
      · rw [List.getElem?_eq_none (by rw [rep2_len]; omega), List.getElem?_eq_none (by simp [-Bool.exists_bool, -Int.not_le, -Int.not_lt, -getElem?_pos, -List.getD_eq_getElem?_getD]; omega)]
theorem rep2_VLes {H : Store} {inv : Key → Key} {nx : Nat} (d : Int) (R : List At) : ∀ n : Nat, VLes H inv nx (repV n [I 0, .nil] ++ [I d, As R]) (dl (csD (zs n d R [])))
  | 0 => by
    have : repV 0 [I 0, .nil] = [] := rfl
    rw [this]
    simp [-Bool.exists_bool, -Int.not_le, -Int.not_lt, -getElem?_pos, -List.getD_eq_getElem?_getD, zs, csD, cD, VLes, dl, VLe, asDz]
  | n + 1 => by
    have ih := rep2_VLes (H := H) (inv := inv) (nx := nx) d R n
    have e : repV (n + 1) [I 0, .nil] = [I 0, .nil] ++ repV n [I 0, .nil] := by
      clear ih
      induction n with
      | zero => rfl
      | succ n ih => rw [rep2_succ, ih, List.append_assoc, ← rep2_succ n, ← ih]
    rw [e]
    have e2 : dl (csD (zs (n + 1) d R [])) = V.d (.int .i64 0) :: V.d (.sl 0 []) :: dl (csD (zs n d R [])) := by rw [zs, List.replicate_succ, List.cons_append, csD_cons]; rfl
    rw [e2]
    simp [-Bool.exists_bool, -Int.not_le, -Int.not_lt, -getElem?_pos, -List.getD_eq_getElem?_getD, VLes, VLe, asDz, ih]
theorem csD_drop2 (L : List Ce) (i : Nat) : (csD L).drop (i * 2 + 2) = csD (L.drop (i + 1)) := by rw [← csD_dropE]; congr 1; omega
theorem iProjectionsOf (d : Int) (L : List At) (h20 : L.length ≤ 1048576) : Cn Try.prog 17 [C1 d L] (pV (projs d L)) hemp := by
  refine Cn.of [] mixed Try.func17 rfl Try.call17 (by kernel_rfl) rfl ?_
  simp -implicitDefEqProofs -dsimp +contextual [-Bool.exists_bool, -Int.not_le, -Int.not_lt, -getElem?_pos, -List.getD_eq_getElem?_getD, Try.f17]
  refine CallJ.pure (iIsCell d L h20) rfl (by simp [-Bool.exists_bool, -Int.not_le, -Int.not_lt, -getElem?_pos, -List.getD_eq_getElem?_getD]) ?_
  simp -implicitDefEqProofs -dsimp +contextual [-Bool.exists_bool, -Int.not_le, -Int.not_lt, -getElem?_pos, -List.getD_eq_getElem?_getD]
  refine ⟨fun hc => ?_, fun hc => ?_⟩
  rotate_left
  · rw [projs, if_neg (by rw [hc]; simp [-Bool.exists_bool, -Int.not_le, -Int.not_lt, -getElem?_pos, -List.getD_eq_getElem?_getD])]
    exact RLe.emp (by simp [-Bool.exists_bool, -Int.not_le, -Int.not_lt, -getElem?_pos, -List.getD_eq_getElem?_getD, pV])
  have hd := isCe_d hc
  have h16 := isCe_l hc
  have hL := isCe_a hc
  rw [projs, if_pos hc]
  obtain ⟨D, rfl⟩ : ∃ n : Nat, d = n := ⟨d.toNat, by omega⟩
  rw [wr (by omega) (by omega), Int.toNat_natCast]
  have e1 : ((D : Int) + 1).toNat = D + 1 := by omega
  rw [e1]
  refine ⟨⟨by omega, by omega, by simp [-Bool.exists_bool, -Int.not_le, -Int.not_lt, -getElem?_pos, -List.getD_eq_getElem?_getD, maxLen]; omega⟩, ?_⟩
  rw [rep2_succ]
  refine CallJ.pure (iNormalW D hd L (by omega) hL) rfl (by simp [-Bool.exists_bool, -Int.not_le, -Int.not_lt, -getElem?_pos, -List.getD_eq_getElem?_getD]) ?_
  simp -implicitDefEqProofs -dsimp +contextual [-Bool.exists_bool, -Int.not_le, -Int.not_lt, -getElem?_pos, -List.getD_eq_getElem?_getD, rep2_len]
  refine ⟨by omega, ?_⟩
  have hD : D ≤ 4 := by omega
  refine WP.loopF mixed [] (fun p : Nat × List At × List Ce => ⟨tl [(4, .ref (9, 0) (D + 1)), (5, I ((p.1 : Int) - 1))], hl [((9, 0), .row 26 (D + 1) (dl (csD (zs p.1 D p.2.1 p.2.2))))], 10⟩)
    (fun p => p.1 + p.2.2.length = D ∧ p.2.1.length ≤ 16 ∧ allOk D p.2.1 ∧ chain D D (nrm D L) = (chain D p.1 p.2.1).map (· ++ p.2.2)) (fun p => p.1) (D, nrm D L, []) (by kernel_rfl) ?_ ?_ ?_
  · rw [wr (by omega) (by omega)]
    refine Le.told [] ?_ ?_ ?_ <;> simp [-Bool.exists_bool, -Int.not_le, -Int.not_lt, -getElem?_pos, -List.getD_eq_getElem?_getD, setH, rep2_len]
    have e2 : List.drop (D * 2 + 2) (repV D [V.d (.int .i64 0), V.nil] ++ [V.d (.int .i64 0), V.nil]) = [] := by simp [-Bool.exists_bool, -Int.not_le, -Int.not_lt, -getElem?_pos, -List.getD_eq_getElem?_getD, rep2_len]
    rw [e2]
    exact rep2_VLes D (nrm D L) D
  · refine ⟨rfl, nrm_16 D L h16, nrm_okL hd hL, ?_⟩
    simp [-Bool.exists_bool, -Int.not_le, -Int.not_lt, -getElem?_pos, -List.getD_eq_getElem?_getD]
  · rintro ⟨m, R, Y⟩ ⟨hm, hR, hRa, he⟩
    simp only at hm hR hRa he
    cases m with
    | zero =>
      have he' : chain D D (nrm D L) = some (zs 0 D R Y) := by rw [he]; rfl
      rw [he']
      refine ⟨⟨tl [(4, .ref (9, 0) (D + 1)), (5, I (-1))], hl [((9, 0), .fz (D + 1) (csD (zs 0 D R Y)))], 10⟩, ?_, ?_⟩
      · refine Le.told [] ?_ ?_ ?_ <;> simp [-Bool.exists_bool, -Int.not_le, -Int.not_lt, -getElem?_pos, -List.getD_eq_getElem?_getD]
      simp -implicitDefEqProofs -dsimp +contextual [-Bool.exists_bool, -Int.not_le, -Int.not_lt, -getElem?_pos, -List.getD_eq_getElem?_getD]
      refine RLe.pure 2 ?_
      simp [-Bool.exists_bool, -Int.not_le, -Int.not_lt, -getElem?_pos, -List.getD_eq_getElem?_getD, pV, zs_len]
      omega
    | succ n =>
      refine ⟨_, Le.refl _ _ _, ?_⟩
      have e1 : ((n + 1 : Nat) : Int) - 1 = (n : Int) := by omega
      have hzl := zs_len (n + 1) D R Y
      have hlt : n + 1 < (zs (n + 1) D R Y).length := by omega
      rw [e1]
      have hw : IntKind.wrap .i64 ((n : Int) + 1) = (n : Int) + 1 := wr (by omega) (by omega)
      have ht : ((n : Int) + 1).toNat = n + 1 := by omega
      simp -implicitDefEqProofs -dsimp +contextual [-Bool.exists_bool, -Int.not_le, -Int.not_lt, -getElem?_pos, -List.getD_eq_getElem?_getD, hw, ht, hlt, zs_nth]
      refine ⟨⟨by omega, by omega⟩, ?_⟩
      have hcR : isCe D R = true := okCe.2 ⟨hd, hR, hRa⟩
      have ed : dropD D R n = dropC D n R := by rw [dropD, if_pos ⟨hcR, by omega, by omega⟩, Int.toNat_natCast]
      refine CallJ.pure (iDropW D n R (by omega)) rfl (by simp [-Bool.exists_bool, -Int.not_le, -Int.not_lt, -getElem?_pos, -List.getD_eq_getElem?_getD]) ?_
      rw [ed]
      have hok := dropC_ok hd n hR hRa
      rw [chain] at he
      generalize dropC D n R = r at hok he ⊢
      obtain ⟨r1, r2, r3⟩ := r
      simp only at hok he ⊢
      have hst : n + 1 ≤ (zs (n + 1) D R Y).length := by omega
      simp -implicitDefEqProofs -dsimp +contextual [-Bool.exists_bool, -Int.not_le, -Int.not_lt, -getElem?_pos, -List.getD_eq_getElem?_getD]
      refine ⟨fun hf => ?_, fun hf => ?_⟩
      · obtain ⟨rfl, h1, h2⟩ := hok hf
        rw [if_pos hf] at he
        refine ⟨by omega, ?_⟩
        have hst2 : n * 2 + 2 ≤ (zs (n + 1) D R Y).length * 2 := by omega
        simp -implicitDefEqProofs -dsimp +contextual [-Bool.exists_bool, -Int.not_le, -Int.not_lt, -getElem?_pos, -List.getD_eq_getElem?_getD, hst2]
        refine ⟨n, r2, (D, R) :: Y, ⟨by simp [-Bool.exists_bool, -Int.not_le, -Int.not_lt, -getElem?_pos, -List.getD_eq_getElem?_getD]; omega, h1, h2, ?_⟩, by omega, ?_⟩
        · rw [he]
          cases chain D n r2 <;> simp [-Bool.exists_bool, -Int.not_le, -Int.not_lt, -getElem?_pos, -List.getD_eq_getElem?_getD]
        · rw [wr (by omega) (by omega)]
          refine Le.told [] ?_ ?_ ?_ <;> simp [-Bool.exists_bool, -Int.not_le, -Int.not_lt, -getElem?_pos, -List.getD_eq_getElem?_getD]
          rw [csD_drop2, ← zs_step n D R r2 Y, csD_append, csD_cons]
          rfl
      · rw [if_neg (by rw [hf]; simp [-Bool.exists_bool, -Int.not_le, -Int.not_lt, -getElem?_pos, -List.getD_eq_getElem?_getD])] at he
        rw [he]
        exact RLe.emp (by simp [-Bool.exists_bool, -Int.not_le, -Int.not_lt, -getElem?_pos, -List.getD_eq_getElem?_getD, pV])
theorem projs_empty (d : Int) (L : List At) : emptyC d L = match projs d L with
    | none => (false, false)
    | some Z => (decide (0 < (nth Z 0).2.length), true) := by
  unfold emptyC projs
  by_cases h : isCe d L = true
  · rw [if_pos h, if_pos h, ← chain_elim]
    cases chain d d.toNat (nrm d L) <;> rfl
  · rw [if_neg h, if_neg h]
theorem chain_pos {d : Int} : ∀ {n : Nat} {L : List At} {Z : List Ce}, chain d n L = some Z → Z.length = n + 1
  | 0, L, Z, h => by unfold chain at h; obtain rfl := Option.some.inj h; rfl
  | n + 1, L, Z, h => by
    unfold chain at h
    split at h
    · cases hc : chain d n (dropC d n L).2.1 with
      | none => rw [hc] at h; simp [-Bool.exists_bool, -Int.not_le, -Int.not_lt, -getElem?_pos, -List.getD_eq_getElem?_getD] at h
      | some W => rw [hc] at h; obtain rfl := Option.some.inj h; simp [-Bool.exists_bool, -Int.not_le, -Int.not_lt, -getElem?_pos, -List.getD_eq_getElem?_getD, chain_pos hc]
    · simp [-Bool.exists_bool, -Int.not_le, -Int.not_lt, -getElem?_pos, -List.getD_eq_getElem?_getD] at h
theorem iIsEmptyCell (d : Int) (L : List At) (h20 : L.length ≤ 1048576) : Cn Try.prog 9 [C1 d L] (B2 (emptyC d L)) hemp := by
  refine Cn.of [] mixed Try.func9 rfl Try.call9 (by kernel_rfl) rfl ?_
  simp -implicitDefEqProofs -dsimp +contextual [-Bool.exists_bool, -Int.not_le, -Int.not_lt, -getElem?_pos, -List.getD_eq_getElem?_getD, Try.f9]
  rw [projs_empty]
  have hp := iProjectionsOf d L h20
  cases hq : projs d L with
  | none =>
    rw [hq] at hp
    refine CallJ.pure hp rfl (by simp [-Bool.exists_bool, -Int.not_le, -Int.not_lt, -getElem?_pos, -List.getD_eq_getElem?_getD]) ?_
    simp -implicitDefEqProofs -dsimp +contextual [-Bool.exists_bool, -Int.not_le, -Int.not_lt, -getElem?_pos, -List.getD_eq_getElem?_getD, pV]
    exact RLe.pure 2 (by simp [-Bool.exists_bool, -Int.not_le, -Int.not_lt, -getElem?_pos, -List.getD_eq_getElem?_getD])
  | some Z =>
    rw [hq] at hp
    have hz : 0 < Z.length := by
      unfold projs at hq
      split at hq
      · rw [chain_pos hq]; omega
      · simp [-Bool.exists_bool, -Int.not_le, -Int.not_lt, -getElem?_pos, -List.getD_eq_getElem?_getD] at hq
    refine CallJ.pure hp rfl (by simp [-Bool.exists_bool, -Int.not_le, -Int.not_lt, -getElem?_pos, -List.getD_eq_getElem?_getD]) ?_
    have h1 : (csD Z)[1]? = some (.sl (nth Z 0).2.length (asD (nth Z 0).2)) := by simpa [-Bool.exists_bool, -Int.not_le, -Int.not_lt, -getElem?_pos, -List.getD_eq_getElem?_getD] using csD_get1 Z 0 hz
    simp -implicitDefEqProofs -dsimp +contextual [-Bool.exists_bool, -Int.not_le, -Int.not_lt, -getElem?_pos, -List.getD_eq_getElem?_getD, pV, hz, h1]
    refine RLe.pure 2 ?_
    simp [-Bool.exists_bool, -Int.not_le, -Int.not_lt, -getElem?_pos, -List.getD_eq_getElem?_getD]
end Go.Proofs.Ytjknjekemolndaa.ZL
namespace Go.Proofs.Ytjknjekemolndaa.ZL
open Go Go.Proofs.Ytjknjekemolndaa.Abs Go.Proofs.Ytjknjekemolndaa.Abs.Pl Go.RowKit Go.Proofs
set_option linter.unusedVariables false
set_option linter.unusedSimpArgs false
def lft (l : Int) (n : Nat) : Int := if l - n < 0 then -1 else l - n
def okL (l : Int) : Prop := 0 ≤ l ∧ l ≤ 1048576
theorem lft_neg {l : Int} {n : Nat} (h : l < n) : lft l n = -1 := if_pos (by omega)
theorem lft_pos {l : Int} {n : Nat} (h : ¬ l < n) : lft l n = l - n := if_neg (by omega)
theorem lft_ok {l : Int} {n : Nat} (hl : okL l) (h : ¬ lft l n < 0) : okL (lft l n) ∧ lft l n = l - n := by
  unfold lft at h ⊢
  unfold okL at hl ⊢
  split
  · rename_i h2; rw [if_pos h2] at h; omega
  · exact ⟨⟨by omega, by omega⟩, rfl⟩
theorem lft_lft {l : Int} {a b : Nat} (hl : okL l) (h : ¬ lft l a < 0) : lft l (a + b) = lft (lft l a) b := by
  obtain ⟨_, h2⟩ := lft_ok hl h
  rw [h2]; unfold lft
  rw [show l - ((a + b : Nat) : Int) = l - a - b by omega]
theorem lft_bad {l : Int} {a b : Nat} (hl : okL l) (h : lft l a < 0) : lft l (a + b) = -1 := by
  unfold lft at h ⊢
  unfold okL at hl
  split at h <;> split <;> omega
def wS {α : Type} (w : α → Nat) : List α → Nat
  | [] => 0
  | a :: l => w a + wS w l
def wA (a : At) : Nat := a.1.length
def wAs (L : List At) : Nat := L.length + wS wA L
def wC (c : Ce) : Nat := wAs c.2
def wCs (L : List Ce) : Nat := L.length + wS wC L
def wfA (a : At) : Prop := a.1.length ≤ maxLen
def wfAs (L : List At) : Prop := L.length ≤ maxLen ∧ ∀ a ∈ L, wfA a
def wfC (c : Ce) : Prop := wfAs c.2
def wfCs (L : List Ce) : Prop := L.length ≤ maxLen ∧ ∀ c ∈ L, wfC c
end Go.Proofs.Ytjknjekemolndaa.ZL
namespace Go.Proofs.Ytjknjekemolndaa.ZL
open Go Go.Proofs.Ytjknjekemolndaa.Abs Go.Proofs.Ytjknjekemolndaa.Abs.Pl Go.RowKit Go.Proofs
set_option linter.unusedVariables false
set_option linter.unusedSimpArgs false
def cpy (l : List Int) (i : Nat) : List Int := l.take i ++ List.replicate (l.length - i) 0
theorem cpy_len (l : List Int) (i : Nat) (h : i ≤ l.length) : (cpy l i).length = l.length := by simp [-Bool.exists_bool, -Int.not_le, -Int.not_lt, -getElem?_pos, -List.getD_eq_getElem?_getD, cpy]; omega
theorem cpy_set (l : List Int) (i : Nat) (h : i < l.length) : (cpy l i).set i (nth l i) = cpy l (i + 1) := by
  have e : l.length - i = (l.length - (i + 1)) + 1 := by omega
  unfold cpy
  rw [e, List.replicate_succ, nth_take h, List.set_append_right _ _ (by simp [-Bool.exists_bool, -Int.not_le, -Int.not_lt, -getElem?_pos, -List.getD_eq_getElem?_getD]; omega)]
  simp [-Bool.exists_bool, -Int.not_le, -Int.not_lt, -getElem?_pos, -List.getD_eq_getElem?_getD, Nat.min_eq_left (Nat.le_of_lt h)]
theorem cpy_end (l : List Int) : cpy l l.length = l := by simp [-Bool.exists_bool, -Int.not_le, -Int.not_lt, -getElem?_pos, -List.getD_eq_getElem?_getD, cpy]
theorem repV_cons (n : Nat) (zc : List V) (hz : 0 < zc.length) : repV (n + 1) zc = zc ++ repV n zc := by
  refine List.ext_getElem? fun i => ?_
  have hm : (n + 1) * zc.length = n * zc.length + zc.length := Nat.succ_mul ..
  by_cases h : i < zc.length
  · rw [List.getElem?_append_left h]
    simp [-Bool.exists_bool, -Int.not_le, -Int.not_lt, -getElem?_pos, -List.getD_eq_getElem?_getD, repV, List.getElem?_range (show i < (n + 1) * zc.length by omega), Nat.mod_eq_of_lt h, List.getD_eq_getElem?_getD, List.getElem?_eq_getElem h]
  · rw [List.getElem?_append_right (by omega)]
    by_cases h2 : i - zc.length < n * zc.length
    · simp [-Bool.exists_bool, -Int.not_le, -Int.not_lt, -getElem?_pos, -List.getD_eq_getElem?_getD, repV, List.getElem?_range h2, List.getElem?_range (show i < (n + 1) * zc.length by omega), Nat.mod_eq_sub_mod (show i ≥ zc.length by omega)]
    · rw [List.getElem?_eq_none (by simp [-Bool.exists_bool, -Int.not_le, -Int.not_lt, -getElem?_pos, -List.getD_eq_getElem?_getD, repV]; omega), List.getElem?_eq_none (by simp [-Bool.exists_bool, -Int.not_le, -Int.not_lt, -getElem?_pos, -List.getD_eq_getElem?_getD, repV]; omega)]
abbrev zA : List V := [.nil, I 0, B false]
theorem rep3_len (n : Nat) : (repV n zA).length = n * 3 := by simp [-Bool.exists_bool, -Int.not_le, -Int.not_lt, -getElem?_pos, -List.getD_eq_getElem?_getD, repV]
theorem zVLes {H : Store} {inv : Key → Key} {nx : Nat} : ∀ n, VLes H inv nx (repV n zA) (repV n zA)
  | 0 => by simp [-Bool.exists_bool, -Int.not_le, -Int.not_lt, -getElem?_pos, -List.getD_eq_getElem?_getD, repV, VLes]
  | n + 1 => by rw [repV_cons _ zA (by simp [-Bool.exists_bool, -Int.not_le, -Int.not_lt, -getElem?_pos, -List.getD_eq_getElem?_getD])]; simp [-Bool.exists_bool, -Int.not_le, -Int.not_lt, -getElem?_pos, -List.getD_eq_getElem?_getD, VLes, VLe, asDz, zVLes n]
theorem zCVLes {H : Store} {inv : Key → Key} {nx : Nat} : ∀ n, VLes H inv nx (repV n [I 0, .nil]) (dl (csD (List.replicate n (0, []))))
  | 0 => by simp [-Bool.exists_bool, -Int.not_le, -Int.not_lt, -getElem?_pos, -List.getD_eq_getElem?_getD, repV, csD, VLes, dl_nil]
  | n + 1 => by
    have e : dl (csD (List.replicate (n + 1) (0, []))) = V.d (.int .i64 0) :: V.d (.sl 0 []) :: dl (csD (List.replicate n (0, []))) := by rw [List.replicate_succ, csD_cons]; rfl
    rw [repV_cons _ _ (by simp [-Bool.exists_bool, -Int.not_le, -Int.not_lt, -getElem?_pos, -List.getD_eq_getElem?_getD]), e]; simp [-Bool.exists_bool, -Int.not_le, -Int.not_lt, -getElem?_pos, -List.getD_eq_getElem?_getD, VLes, VLe, asDz, zCVLes n]
def cpyC (L : List Ce) (i : Nat) : List Ce := L.take i ++ List.replicate (L.length - i) (0, [])
theorem cpyC_len (L : List Ce) (i : Nat) (h : i ≤ L.length) : (cpyC L i).length = L.length := by simp [-Bool.exists_bool, -Int.not_le, -Int.not_lt, -getElem?_pos, -List.getD_eq_getElem?_getD, cpyC]; omega
theorem cpyC_set (L : List Ce) (i : Nat) (h : i < L.length) : (cpyC L i).take i ++ nth L i :: (cpyC L i).drop (i + 1) = cpyC L (i + 1) := by
  have e : L.length - i = (L.length - (i + 1)) + 1 := by omega
  have hm : min i L.length = i := by omega
  unfold cpyC
  rw [e, nth_take h, List.replicate_succ, List.take_append, List.drop_append]
  simp [-Bool.exists_bool, -Int.not_le, -Int.not_lt, -getElem?_pos, -List.getD_eq_getElem?_getD, hm, List.take_take]
end Go.Proofs.Ytjknjekemolndaa.ZL
namespace Go.Proofs.Ytjknjekemolndaa.ZL
open Go Go.Proofs.Ytjknjekemolndaa.Abs Go.Proofs.Ytjknjekemolndaa.Abs.Pl Go.RowKit Go.Proofs
set_option linter.unusedVariables false
set_option linter.unusedSimpArgs false
theorem wS_le {α : Type} {w : α → Nat} : ∀ {L : List α} {a : α}, a ∈ L → w a ≤ wS w L
  | b :: L, a, h => by
    rcases List.mem_cons.1 h with rfl | h
    · simp [-Bool.exists_bool, -Int.not_le, -Int.not_lt, -getElem?_pos, -List.getD_eq_getElem?_getD, wS]
    · have := wS_le (w := w) h; simp [-Bool.exists_bool, -Int.not_le, -Int.not_lt, -getElem?_pos, -List.getD_eq_getElem?_getD, wS]; omega
theorem wAs_small {L : List At} (h : wAs L ≤ 1048576) : L.length ≤ 1048576 ∧ ∀ a ∈ L, a.1.length ≤ 1048576 := by
  unfold wAs at h
  exact ⟨by omega, fun a ha => by have := wS_le (w := wA) ha; unfold wA at this h; omega⟩
theorem wCs_small {L : List Ce} (h : wCs L ≤ 1048576) : L.length ≤ 1048576 ∧ ∀ c ∈ L, c.2.length ≤ 1048576 ∧ ∀ a ∈ c.2, a.1.length ≤ 1048576 := by
  unfold wCs at h
  exact ⟨by omega, fun c hc => wAs_small (by have := wS_le (w := wC) hc; unfold wC at this h; omega)⟩
theorem lft_le {n : Nat} (h : ¬ lft 1048576 n < 0) : n ≤ 1048576 := by
  unfold lft at h
  split at h <;> omega
theorem ok20 : okL 1048576 := ⟨by omega, by omega⟩
end Go.Proofs.Ytjknjekemolndaa.ZL
namespace Go.Proofs.Ytjknjekemolndaa.ZL
open Go Go.Proofs.Ytjknjekemolndaa.Abs Go.Proofs.Ytjknjekemolndaa.Abs.Pl Go.RowKit Go.Proofs
set_option linter.unusedVariables false
set_option linter.unusedSimpArgs false
theorem negAt_t {a : At} (h : isAt a.1 a.2.1 = true) : negAt a.1 a.2.1 a.2.2 = (a.1.map (- ·), -a.2.1, !a.2.2, true) := if_pos h
theorem negAt_f {a : At} (h : isAt a.1 a.2.1 = false) : negAt a.1 a.2.1 a.2.2 = noAt := if_neg (by rw [h]; simp [-Bool.exists_bool, -Int.not_le, -Int.not_lt, -getElem?_pos, -List.getD_eq_getElem?_getD])
def negs (l : List Int) (i : Nat) : List Int := (l.take i).map (- ·) ++ List.replicate (l.length - i) 0
theorem negs_len (l : List Int) (i : Nat) (h : i ≤ l.length) : (negs l i).length = l.length := by simp [-Bool.exists_bool, -Int.not_le, -Int.not_lt, -getElem?_pos, -List.getD_eq_getElem?_getD, negs]; omega
theorem negs_set (l : List Int) (i : Nat) (h : i < l.length) : (negs l i).set i (-nth l i) = negs l (i + 1) := by
  have e : l.length - i = (l.length - (i + 1)) + 1 := by omega
  unfold negs
  rw [e, List.replicate_succ, nth_take h, List.set_append_right _ _ (by simp [-Bool.exists_bool, -Int.not_le, -Int.not_lt, -getElem?_pos, -List.getD_eq_getElem?_getD]; omega)]
  simp [-Bool.exists_bool, -Int.not_le, -Int.not_lt, -getElem?_pos, -List.getD_eq_getElem?_getD, Nat.min_eq_left (Nat.le_of_lt h)]
theorem _root_.Go.Proofs.Ytjknjekemolndaa.Abs.CallJ.same {P : Program} {N nx s f : Nat} {H : Store} {vs : List V} {r : V} {Hr : Store} {K : Eff → Prop} (h : Cn P f vs r Hr) (ha : allKs (fun _ => False) vs)
    (hk : K ⟨mapK (atS s) r, [], [], upCall s Hr⟩) : CallJ P N nx s H f vs K := by
  refine ⟨_, hk, h.enter, upCall_ups, fun k hk => absurd hk (by simp [-Bool.exists_bool, -Int.not_le, -Int.not_lt, -getElem?_pos, -List.getD_eq_getElem?_getD]), fun k hk => absurd hk (by simp [-Bool.exists_bool, -Int.not_le, -Int.not_lt, -getElem?_pos, -List.getD_eq_getElem?_getD]), fun {w0 F0 E0 fr T Hc a w M F us dst} hfr hat hden hH hd => ?_⟩
  let Fc : Nat → Prop := fun b => F b ∧ b < w.heap.size
  have hm : DenVs M Fc w vs us.toList := hden.move (fun _ _ h => h) ⟨fun b hb => .inl hb.1, fun _ _ _ => rfl⟩
  refine (h.run w Fc us (fun b hb => hb.2) (DenVs.cong (M := M) (g := fun k => k) (p := fun _ => False) (fun k h => h.elim) ha (by rw [mapL_id]; exact hm))).mono ?_
  rintro e w' ⟨v, M', F', rfl, hFF, hr, hR, hc, hnew, hM0⟩
  refine ⟨v, rfl, hat.called (F2 := fun b => F' b ∧ (F b ∨ w.heap.size ≤ b)) hfr hd hc (fun b hb => hb.2) (fun b h1 h2 => ⟨hFF b ⟨h1, h2⟩, .inl h1⟩) hM0 ?_ ?_ hnew⟩
  · exact hr.move (fun _ _ h => h) ⟨fun b hb => .inl hb.1, fun _ _ _ => rfl⟩
  · refine hR.mono (fun b hb => hb.1) fun k e u b h1 h2 h3 h4 => ⟨?_, .inr (hnew k e u b h1 h2 h3 h4)⟩
    obtain ⟨u', hu', _, hF⟩ := hR.ent k e h1
    rw [h3] at hu'
    obtain rfl := Option.some.inj hu'
    exact hF h2 b h4
def sD (L : List At) : D := .sl L.length (asD L)
abbrev Ss (Ls : List (List At)) : V := .d (.sl Ls.length (Ls.map sD))
theorem Ss_get (Ls : List (List At)) (i : Nat) (h : i < Ls.length) : (Ls.map sD)[i]? = some (sD (nth Ls i)) := by rw [List.getElem?_map, nth_some h]; rfl
def tot : List (List At) → Nat
  | [] => 0
  | L :: Ls => L.length + tot Ls
theorem tot_flat : ∀ Ls : List (List At), Ls.flatten.length = tot Ls
  | [] => rfl
  | L :: Ls => by simp [-Bool.exists_bool, -Int.not_le, -Int.not_lt, -getElem?_pos, -List.getD_eq_getElem?_getD, tot, tot_flat Ls]
theorem tot_drop (Ls : List (List At)) (i : Nat) : tot (Ls.drop i) ≤ tot Ls := by
  induction Ls generalizing i with
  | nil => simp [-Bool.exists_bool, -Int.not_le, -Int.not_lt, -getElem?_pos, -List.getD_eq_getElem?_getD]
  | cons L Ls ih => cases i with
    | zero => exact Nat.le_refl _
    | succ i => have := ih i; simp [-Bool.exists_bool, -Int.not_le, -Int.not_lt, -getElem?_pos, -List.getD_eq_getElem?_getD, tot]; omega
def meetC (a b : Ce) : Int × List At × Bool := if isCe a.1 a.2 = true ∧ isCe b.1 b.2 = true ∧ a.1 = b.1 then limN a.1 (a.2 ++ b.2) else (0, [], false)
theorem meetC_f {a b : Ce} (h : ¬ (meetC a b).2.2 = true) : meetC a b = (0, [], false) := by
  unfold meetC at h ⊢
  split
  · rename_i h2; rw [if_pos h2] at h; exact limN_f h
  · rfl
end Go.Proofs.Ytjknjekemolndaa.ZL
namespace Go.Proofs.Ytjknjekemolndaa.ZL
open Go Go.Proofs.Ytjknjekemolndaa.Abs Go.Proofs.Ytjknjekemolndaa.Abs.Pl Go.RowKit Go.Proofs
set_option linter.unusedVariables false
set_option linter.unusedSimpArgs false
end Go.Proofs.Ytjknjekemolndaa.ZL
namespace Go.Proofs.Ytjknjekemolndaa.ZL
open Go Go.Proofs.Ytjknjekemolndaa.Abs Go.Proofs.Ytjknjekemolndaa.Abs.Pl Go.RowKit Go.Proofs
set_option linter.unusedVariables false
set_option linter.unusedSimpArgs false
def impA (c : Ce) (a : At) : Bool × Bool := if isAt a.1 a.2.1 = true then (if (meetC c (a.1.length, [(a.1.map (- ·), -a.2.1, !a.2.2)])).2.2 = true then emptyC (meetC c (a.1.length, [(a.1.map (- ·), -a.2.1, !a.2.2)])).1 (meetC c (a.1.length, [(a.1.map (- ·), -a.2.1, !a.2.2)])).2.1 else (false, false)) else (false, false)
theorem meetC_16 {a b : Ce} : (meetC a b).2.1.length ≤ 16 := by
  unfold meetC
  split
  · unfold limN; split
    · simp [-Bool.exists_bool, -Int.not_le, -Int.not_lt, -getElem?_pos, -List.getD_eq_getElem?_getD]
    · simp [-Bool.exists_bool, -Int.not_le, -Int.not_lt, -getElem?_pos, -List.getD_eq_getElem?_getD]; omega
  · simp [-Bool.exists_bool, -Int.not_le, -Int.not_lt, -getElem?_pos, -List.getD_eq_getElem?_getD]
theorem lft_2 {k : Int} {n : Nat} (hk : okL k) (h : ¬ lft k n < 0) : n ≤ 1048576 ∧ okL (lft k n) := by
  unfold lft okL at *
  split at h
  · omega
  · rename_i h2; rw [if_neg h2]; omega
end Go.Proofs.Ytjknjekemolndaa.ZL
namespace Go.Proofs.Ytjknjekemolndaa.ZL
open Go Go.Proofs.Ytjknjekemolndaa.Abs Go.Proofs.Ytjknjekemolndaa.Abs.Pl Go.RowKit Go.Proofs
set_option linter.unusedVariables false
set_option linter.unusedSimpArgs false
def covGo (b : Ce) : List At → Bool × Bool
  | [] => (true, true)
  | x :: r => if (impA b x).2 = true ∧ (impA b x).1 = true then covGo b r else (false, (impA b x).2)
def covC (a b : Ce) : Bool × Bool := if isCe a.1 a.2 = true ∧ isCe b.1 b.2 = true ∧ a.1 = b.1 then covGo b a.2 else (false, false)
theorem okA_small {d : Int} {x : At} (h : okA d x) : x.1.length ≤ 1048576 := by have := (okA_num h).2.2; omega
end Go.Proofs.Ytjknjekemolndaa.ZL
namespace Go.Proofs.Ytjknjekemolndaa.ZL
open Go Go.Proofs.Ytjknjekemolndaa.Abs Go.Proofs.Ytjknjekemolndaa.Abs.Pl Go.RowKit Go.Proofs
set_option linter.unusedVariables false
set_option linter.unusedSimpArgs false
def kMe (P : Program) (A : Key → Prop) (H : Store) (r : V) (Hr : Store) (vs : List V) : Prop := RLm P A H (oneV vs) r Hr
section
variable {P : Program} {A : Key → Prop} {H : Store} {r v : V} {Hr : Store} {S : St} {rs : List ResultVar}
theorem retM_ret : retM P rs A r Hr .ret S = resS P S.T S.H rs (kMe P A S.H r Hr) := rfl
theorem kMe_1 : kMe P A H r Hr [v] = RLm P A H v r Hr := rfl
theorem RLm.told {K : List (Key × Ent)} (hv : VLe H (fun k => k) 2 v r) (hr : allK (okKey A) r)
    (hK : allP (fun p : Key × Ent => p.1.1 < 2 ∧ okKey A p.1 ∧ allKE (okKey A) p.2 ∧ entIs (H p.1) fun e => ELe H (fun k => k) 2 e p.2) K) : RLm P A H v r (hl K) :=
  RLm.mk (fun k => k) (fun _ _ => rfl) hv hr (fun k e' hk => by
    obtain ⟨h1, h2, h3, h4⟩ := allP_mem hK _ (hl_mem hk)
    simp only [entIs] at h4
    refine ⟨h1, h2, h3, ?_⟩
    cases hq : H k with
    | none => rw [hq] at h4; exact h4.elim
    | some e => rw [hq] at h4; exact ⟨e, rfl, h4⟩) (fun _ _ _ _ _ _ h => h)
end
theorem allKs_dl (p : Key → Prop) : ∀ cs : List D, allKs p (dl cs)
  | [] => trivial
  | d :: cs => ⟨trivial, allKs_dl p cs⟩
attribute [simp ↓] retM_ret kMe_1
attribute [simp] allKs_dl
def markI (n : Nat) (m : Int) : List Int := (List.range n).map fun i : Nat => m + i
def rowI (l : List Int) : Ent := .row 3 l.length (dl (l.map (.int .i64)))
def curI (l : List Int) (m : Int) (i : Nat) : List Int := markI i m ++ l.drop i
theorem markI_len (n : Nat) (m : Int) : (markI n m).length = n := by simp [-Bool.exists_bool, -Int.not_le, -Int.not_lt, -getElem?_pos, -List.getD_eq_getElem?_getD, markI]
theorem curI_len (l : List Int) (m : Int) (i : Nat) (h : i ≤ l.length) : (curI l m i).length = l.length := by simp [-Bool.exists_bool, -Int.not_le, -Int.not_lt, -getElem?_pos, -List.getD_eq_getElem?_getD, curI, markI_len]; omega
theorem curI_set (l : List Int) (m : Int) (i : Nat) (h : i < l.length) : (curI l m i).set i (m + i) = curI l m (i + 1) := by
  unfold curI
  rw [List.set_append_right _ _ (by rw [markI_len]; exact Nat.le_refl _), markI_len, nth_drop h]
  simp [-Bool.exists_bool, -Int.not_le, -Int.not_lt, -getElem?_pos, -List.getD_eq_getElem?_getD, markI, List.range_succ]
def markA (a : At) (m : Int) : At := (markI a.1.length m, m + a.1.length, decide ((m + a.1.length + 1).tmod 3 = 0))
def markS : List At → Int → List At
  | [], _ => []
  | a :: L, m => markA a m :: markS L (m + a.1.length + 2)
def nxtS : List At → Int → Int
  | [], m => m
  | a :: L, m => nxtS L (m + a.1.length + 2)
theorem markA_len (a : At) (m : Int) : (markA a m).1.length = a.1.length := markI_len ..
theorem markS_len : ∀ (L : List At) (m : Int), (markS L m).length = L.length
  | [], _ => rfl
  | a :: L, m => by simp [-Bool.exists_bool, -Int.not_le, -Int.not_lt, -getElem?_pos, -List.getD_eq_getElem?_getD, markS, markS_len L]
theorem nxtS_app : ∀ (L M : List At) (m : Int), nxtS (L ++ M) m = nxtS M (nxtS L m)
  | [], M, m => rfl
  | a :: L, M, m => by simp [-Bool.exists_bool, -Int.not_le, -Int.not_lt, -getElem?_pos, -List.getD_eq_getElem?_getD, nxtS, nxtS_app L]
theorem markS_app : ∀ (L M : List At) (m : Int), markS (L ++ M) m = markS L m ++ markS M (nxtS L m)
  | [], M, m => rfl
  | a :: L, M, m => by simp [-Bool.exists_bool, -Int.not_le, -Int.not_lt, -getElem?_pos, -List.getD_eq_getElem?_getD, markS, nxtS, markS_app L]
def curA (L : List At) (m : Int) (i : Nat) : List At := markS (L.take i) m ++ L.drop i
theorem curA_len (L : List At) (m : Int) (i : Nat) (h : i ≤ L.length) : (curA L m i).length = L.length := by simp [-Bool.exists_bool, -Int.not_le, -Int.not_lt, -getElem?_pos, -List.getD_eq_getElem?_getD, curA, markS_len]; omega
theorem curA_set (L : List At) (m : Int) (i : Nat) (h : i < L.length) : (curA L m i).set i (markA (nth L i) (nxtS (L.take i) m)) = curA L m (i + 1) := by
  unfold curA
  have hl : (markS (L.take i) m).length = i := by rw [markS_len]; simp [-Bool.exists_bool, -Int.not_le, -Int.not_lt, -getElem?_pos, -List.getD_eq_getElem?_getD]; omega
  rw [List.set_append_right _ _ (by rw [hl]; exact Nat.le_refl _), hl, nth_drop h, nth_take h, markS_app]
  simp [-Bool.exists_bool, -Int.not_le, -Int.not_lt, -getElem?_pos, -List.getD_eq_getElem?_getD, markS]
theorem curA_nth (L : List At) (m : Int) (i j : Nat) (h : i ≤ j) (hj : j < L.length) : nth (curA L m i) j = nth L j := by
  have hl : (markS (L.take i) m).length = i := by rw [markS_len]; simp [-Bool.exists_bool, -Int.not_le, -Int.not_lt, -getElem?_pos, -List.getD_eq_getElem?_getD]; omega
  rw [nth_eq (by rw [curA_len _ _ _ (by omega)]; exact hj), nth_eq hj]
  unfold curA
  rw [List.getElem_append_right (by rw [hl]; exact h)]
  simp only [hl, List.getElem_drop]
  congr 1
  omega
def mFam (L : List At) : Store := fun k => if k.1 = 0 then (match k.2 with
    | 0 => none
    | 1 => some (.row 51 L.length (rA (fun j => (0, j + 2)) 0 L))
    | j + 2 => ownA L j) else none
def mKey (n : Nat) (k : Key) : Prop := k.1 = 0 ∧ 1 ≤ k.2 ∧ k.2 ≤ n + 1
theorem mFam_1 (L : List At) : mFam L (0, 1) = some (.row 51 L.length (rA (fun j => (0, j + 2)) 0 L)) := rfl
theorem mFam_j (L : List At) (j : Nat) : mFam L (0, j + 2) = ownA L j := rfl
theorem mFam_some {L : List At} {k : Key} {e : Ent} (h : mFam L k = some e) : (k = (0, 1) ∧ e = .row 51 L.length (rA (fun j => (0, j + 2)) 0 L)) ∨ ∃ j, j < L.length ∧ k = (0, j + 2) ∧ e = rowA (nth L j) := by
  obtain ⟨a, b⟩ := k
  unfold mFam at h
  simp only at h
  split at h
  · rename_i ha
    subst ha
    split at h
    · exact absurd h (by simp [-Bool.exists_bool, -Int.not_le, -Int.not_lt, -getElem?_pos, -List.getD_eq_getElem?_getD])
    · exact .inl ⟨rfl, (Option.some.inj h).symm⟩
    · rename_i j
      obtain ⟨h1, h2⟩ := ownA_some h
      exact .inr ⟨j, h1, rfl, h2⟩
  · exact absurd h (by simp [-Bool.exists_bool, -Int.not_le, -Int.not_lt, -getElem?_pos, -List.getD_eq_getElem?_getD])
theorem Le.mfam {P : Program} {N : Nat} {T : Nat → V} {H : Store} {nx : Nat} {Lt : List (Nat × V)} (L : List At) (hT : allP (fun p : Nat × V => VLe H (fun k => k) 2 (T p.1) p.2) Lt) (h1 : H (0, 1) = some (.row 51 L.length (rA (fun j => (0, j + 2)) 0 L)))
    (hF : ∀ j, j < L.length → H (0, j + 2) = some (rowA (nth L j))) : Le P N ⟨T, H, nx⟩ ⟨tl Lt, mFam L, 2⟩ := by
  refine Le.mk (fun k => k) (.inr (by show 0 < 2; omega)) (fun _ _ _ _ => rfl) (tl_cond (allP_mem hT)) (fun k e' hk => ?_) (fun _ _ _ _ _ _ h => h)
  rcases mFam_some hk with ⟨rfl, rfl⟩ | ⟨j, hj, rfl, rfl⟩
  · refine ⟨by show 0 < 2; omega, _, h1, ?_⟩
    simp only [ELe, true_and]
    exact rA_VLes L 0 fun i hi => ⟨rfl, by show 0 < 2; omega⟩
  · refine ⟨by show 0 < 2; omega, _, hF j hj, ?_⟩
    simp only [rowA, ELe, true_and]
    exact (dl_VLes ..).2 rfl
theorem rA_0 (f : Nat → Key) (L : List At) (i : Nat) (h : i < L.length) : (rA f 0 L)[i * 3]? = some (.ref (f i) (nth L i).1.length) := by
  have := rA_nth f L i 0 h
  rw [Nat.zero_add] at this
  rw [show (rA f 0 L)[i * 3]? = ((rA f 0 L).drop (i * 3))[0]? by rw [List.getElem?_drop, Nat.add_zero], this]
  rfl
theorem nxtS_le : ∀ (L : List At) (m : Int), m ≤ nxtS L m
  | [], m => Int.le_refl _
  | a :: L, m => by have := nxtS_le L (m + a.1.length + 2); simp only [nxtS]; omega
theorem nxtS_take (L : List At) (m : Int) (i : Nat) : nxtS (L.take i) m ≤ nxtS L m := by
  have := nxtS_le (L.drop i) (nxtS (L.take i) m)
  rwa [← nxtS_app, List.take_append_drop] at this
theorem rA_allKs {p : Key → Prop} (f : Nat → Key) : ∀ (L : List At) (j : Nat), (∀ i, i < L.length → p (f (j + i))) → allKs p (rA f j L)
  | [], _, _ => trivial
  | a :: L, j, h => ⟨by have := h 0 (by simp [-Bool.exists_bool, -Int.not_le, -Int.not_lt, -getElem?_pos, -List.getD_eq_getElem?_getD]); exact this, trivial, trivial, rA_allKs f L (j + 1) fun i hi => by have := h (i + 1) (by simp [-Bool.exists_bool, -Int.not_le, -Int.not_lt, -getElem?_pos, -List.getD_eq_getElem?_getD]; omega); rwa [show j + (i + 1) = j + 1 + i by omega] at this⟩
theorem rA_put (f : Nat → Key) (L : List At) (i : Nat) (h : i < L.length) (a : At) (hl : a.1.length = (nth L i).1.length) :
    (((rA f 0 L).take (i * 3 + 1) ++ I a.2.1 :: (rA f 0 L).drop (i * 3 + 1 + 1)).take (i * 3 + 2) ++ B a.2.2 :: ((rA f 0 L).take (i * 3 + 1) ++ I a.2.1 :: (rA f 0 L).drop (i * 3 + 1 + 1)).drop (i * 3 + 2 + 1)) = rA f 0 (L.set i a) := by
  have e1 : L = L.take i ++ nth L i :: L.drop (i + 1) := by rw [← nth_drop h, List.take_append_drop]
  have e2 : L.set i a = L.take i ++ a :: L.drop (i + 1) := by rw [List.set_eq_take_append_cons_drop, if_pos h]
  have hti : (L.take i).length = i := by simp [-Bool.exists_bool, -Int.not_le, -Int.not_lt, -getElem?_pos, -List.getD_eq_getElem?_getD]; omega
  have hR : rA f 0 L = rA f 0 (L.take i) ++ (.ref (f i) (nth L i).1.length :: I (nth L i).2.1 :: B (nth L i).2.2 :: rA f (i + 1) (L.drop (i + 1))) := by
    rw [congrArg (rA f 0) e1, rA_append, hti, Nat.zero_add]; rfl
  have hS : rA f 0 (L.set i a) = rA f 0 (L.take i) ++ (.ref (f i) (nth L i).1.length :: I a.2.1 :: B a.2.2 :: rA f (i + 1) (L.drop (i + 1))) := by
    rw [e2, rA_append, hti, Nat.zero_add, ← hl]; rfl
  rw [hS, hR]
  have hA : (rA f 0 (L.take i)).length = i * 3 := by rw [rA_len, hti]
  generalize rA f 0 (L.take i) = A at hA
  rw [← hA]
  have t1 : A.take (A.length + 1) = A := List.take_of_length_le (by omega)
  have t2 : A.take (A.length + 2) = A := List.take_of_length_le (by omega)
  have d1 : A.drop (A.length + 1 + 1) = [] := List.drop_eq_nil_of_le (by omega)
  have d2 : A.drop (A.length + 2 + 1) = [] := List.drop_eq_nil_of_le (by omega)
  have k1 : A.length + 1 + 1 - A.length = 2 := by omega
  have k2 : A.length + 2 + 1 - A.length = 3 := by omega
  simp [-Bool.exists_bool, -Int.not_le, -Int.not_lt, -getElem?_pos, -List.getD_eq_getElem?_getD, List.take_append, List.drop_append, t1, t2, d1, d2, k1, k2]
end Go.Proofs.Ytjknjekemolndaa.ZL
namespace Go.Proofs.Ytjknjekemolndaa.ZL
open Go Go.Proofs.Ytjknjekemolndaa.Abs Go.Proofs.Ytjknjekemolndaa.Abs.Pl Go.RowKit Go.Proofs
set_option linter.unusedVariables false
set_option linter.unusedSimpArgs false
def upMark (s0 o : Nat) (L : List At) : Key → Option (Option Ent) := fun k => if k.1 = s0 then (if k.2 = o then some (some (.row 51 L.length (rA (fun j => (s0, j + o + 1)) 0 L))) else
    if o < k.2 ∧ k.2 ≤ o + L.length then some (ownA L (k.2 - o - 1)) else none) else none
section
variable {H : Store}
theorem upMark_0 (s0 o : Nat) (L : List At) : app (upMark s0 o L) H (s0, o) = some (.row 51 L.length (rA (fun j => (s0, j + o + 1)) 0 L)) := by simp [-Bool.exists_bool, -Int.not_le, -Int.not_lt, -getElem?_pos, -List.getD_eq_getElem?_getD, app, upMark]
theorem upMark_j (s0 o : Nat) (L : List At) (j : Nat) (h : j < L.length) : app (upMark s0 o L) H (s0, j + o + 1) = some (rowA (nth L j)) := by
  have h1 : ¬ j + o + 1 = o := by omega
  have h2 : o < j + o + 1 ∧ j + o + 1 ≤ o + L.length := by omega
  have h3 : j + o + 1 - o - 1 = j := by omega
  simp only [app, upMark, if_true, if_neg h1, if_pos h2, h3, ownA_lt h]
theorem upMark_ne (s0 o : Nat) (L : List At) (a b : Nat) (h : a ≠ s0) : app (upMark s0 o L) H (a, b) = H (a, b) := by simp [-Bool.exists_bool, -Int.not_le, -Int.not_lt, -getElem?_pos, -List.getD_eq_getElem?_getD, app, upMark, h]
end
def famK (s0 o n : Nat) : List Key := (s0, o) :: (List.range n).map fun j => (s0, j + o + 1)
theorem callMark {N nx s f : Nat} {H : Store} {K : Eff → Prop} {vs vs' : List V} {x : Int} (s0 o : Nat) (L L' : List At) (hl : L'.length = L.length) (h : Cm Try.prog f (mKey L.length) vs' (mFam L) (I x) (mFam L'))
    (hv : vs = mapL (gk (fun j => (s0, j + o)) s) vs') (hvk : allKs (mKey L.length) vs') (h0 : H (s0, o) = some (.row 51 L.length (rA (fun j => (s0, j + o + 1)) 0 L))) (hF : ∀ j, j < L.length → H (s0, j + o + 1) = some (rowA (nth L j)))
    (hs : s0 ≠ s) (hn : s0 < nx) (hk : K ⟨I x, famK s0 o L.length, famK s0 o L.length, upMark s0 o L'⟩) : CallJ Try.prog N nx s H f vs K := by
  let g : Nat → Key := fun j => (s0, j + o)
  let gi : Key → Option Nat := fun k => if k.1 = s0 ∧ o ≤ k.2 ∧ k.2 ≤ o + L.length then some (k.2 - o) else none
  have hat : ∀ j, j < L.length → (s0, j + o + 1) ∈ famK s0 o L.length := fun j hj => List.mem_cons_of_mem _ (List.mem_map.2 ⟨j, by simpa [-Bool.exists_bool, -Int.not_le, -Int.not_lt, -getElem?_pos, -List.getD_eq_getElem?_getD] using hj, rfl⟩)
  have hfam : ∀ k ∈ famK s0 o L.length, k.1 = s0 ∧ ∃ j, j ≤ L.length ∧ k = (s0, j + o) ∧ (H k).isSome = true := fun k hk => by
    rcases List.mem_cons.1 hk with rfl | hk
    · exact ⟨rfl, 0, Nat.zero_le _, by simp [-Bool.exists_bool, -Int.not_le, -Int.not_lt, -getElem?_pos, -List.getD_eq_getElem?_getD], by rw [h0]; rfl⟩
    · obtain ⟨j, hj, rfl⟩ := List.mem_map.1 hk
      have hj' : j < L.length := by simpa [-Bool.exists_bool, -Int.not_le, -Int.not_lt, -getElem?_pos, -List.getD_eq_getElem?_getD] using hj
      exact ⟨rfl, j + 1, hj', by show (s0, j + o + 1) = (s0, j + 1 + o); rw [show j + o + 1 = j + 1 + o by omega], by rw [hF j (by simpa [-Bool.exists_bool, -Int.not_le, -Int.not_lt, -getElem?_pos, -List.getD_eq_getElem?_getD] using hj)]; rfl⟩
  have hgk : ∀ k, mKey L.length k → (H (g (k.2 - 1))).isSome = true ∧ g (k.2 - 1) ∈ famK s0 o L.length := fun k hk => by
    obtain ⟨h1, h2, h3⟩ := hk
    by_cases h4 : k.2 = 1
    · have : g (k.2 - 1) = (s0, o) := by show (s0, k.2 - 1 + o) = _; rw [h4]; simp [-Bool.exists_bool, -Int.not_le, -Int.not_lt, -getElem?_pos, -List.getD_eq_getElem?_getD]
      rw [this]
      exact ⟨by rw [h0]; rfl, List.mem_cons_self⟩
    · have : g (k.2 - 1) = (s0, (k.2 - 2) + o + 1) := by show (s0, k.2 - 1 + o) = _; rw [show k.2 - 1 + o = k.2 - 2 + o + 1 by omega]
      rw [this]
      exact ⟨by rw [hF (k.2 - 2) (by omega)]; rfl, hat _ (by omega)⟩
  have hup : upMut g gi s (mFam L') = upMark s0 o L' := by
    funext k
    unfold upMut upMark
    by_cases h1 : k.1 = s
    · rw [if_pos h1, if_neg (fun h2 => hs (h2.symm.trans h1))]
      have : mFam L' (1, k.2) = none := by simp [-Bool.exists_bool, -Int.not_le, -Int.not_lt, -getElem?_pos, -List.getD_eq_getElem?_getD, mFam]
      rw [this]
    · rw [if_neg h1]
      by_cases h2 : k.1 = s0
      · rw [if_pos h2]
        by_cases h3 : o ≤ k.2 ∧ k.2 ≤ o + L.length
        · have e : gi k = some (k.2 - o) := by show (if k.1 = s0 ∧ o ≤ k.2 ∧ k.2 ≤ o + L.length then some (k.2 - o) else none) = _; rw [if_pos ⟨h2, h3⟩]
          rw [e]
          simp only []
          by_cases h4 : k.2 = o
          · rw [if_pos h4, show k.2 - o + 1 = 1 by omega, mFam_1]
            simp only [Option.map_some, mapE, rA_mapL]
            have : (fun i => gk g s (0, i + 2)) = fun j => (s0, j + o + 1) := by
              funext i
              show (s0, i + 2 - 1 + o) = _
              rw [show i + 2 - 1 + o = i + o + 1 by omega]
            rw [this]
          · rw [if_neg h4, if_pos ⟨by omega, by omega⟩, show k.2 - o + 1 = (k.2 - o - 1) + 2 by omega, mFam_j, ownA_lt (by omega)]
            simp [-Bool.exists_bool, -Int.not_le, -Int.not_lt, -getElem?_pos, -List.getD_eq_getElem?_getD, mapE, rowA]
        · have e : gi k = none := by show (if k.1 = s0 ∧ o ≤ k.2 ∧ k.2 ≤ o + L.length then some (k.2 - o) else none) = _; rw [if_neg (fun h => h3 h.2)]
          rw [e, if_neg (by omega), if_neg (by omega)]
      · have e : gi k = none := by show (if k.1 = s0 ∧ o ≤ k.2 ∧ k.2 ≤ o + L.length then some (k.2 - o) else none) = _; rw [if_neg (fun h => h2 h.1)]
        rw [e, if_neg h2]
  rw [← hup] at hk
  refine CallJ.mut g gi (famK s0 o L.length) [] h hv hvk (fun k hk => ⟨hk.1, hk.2.1, (hgk k hk).1, by rw [List.append_nil]; exact (hgk k hk).2⟩) ?_ ?_ ?_ ?_ ?_ (by simpa [-Bool.exists_bool, -Int.not_le, -Int.not_lt, -getElem?_pos, -List.getD_eq_getElem?_getD] using hk)
  · intro k e hk
    rcases mFam_some hk with ⟨rfl, rfl⟩ | ⟨j, hj, rfl, rfl⟩
    · refine ⟨⟨rfl, by simp [-Bool.exists_bool, -Int.not_le, -Int.not_lt, -getElem?_pos, -List.getD_eq_getElem?_getD], by simp [-Bool.exists_bool, -Int.not_le, -Int.not_lt, -getElem?_pos, -List.getD_eq_getElem?_getD]⟩, ?_, ?_, ?_⟩
      · show H (s0, 0 + o) = _
        rw [Nat.zero_add, h0]
        simp only [mapE, rA_mapL]
        have : (fun i => gk g s (0, i + 2)) = fun j => (s0, j + o + 1) := by
          funext i
          show (s0, i + 2 - 1 + o) = _
          rw [show i + 2 - 1 + o = i + o + 1 by omega]
        rw [this]
      · simp only [allKE]
        exact rA_allKs _ _ 0 fun i hi => ⟨rfl, by simp [-Bool.exists_bool, -Int.not_le, -Int.not_lt, -getElem?_pos, -List.getD_eq_getElem?_getD], by simp [-Bool.exists_bool, -Int.not_le, -Int.not_lt, -getElem?_pos, -List.getD_eq_getElem?_getD]; omega⟩
      · show (if s0 = s0 ∧ o ≤ 0 + o ∧ 0 + o ≤ o + L.length then some (0 + o - o) else none) = some 0
        rw [if_pos ⟨rfl, by omega, by omega⟩]; simp [-Bool.exists_bool, -Int.not_le, -Int.not_lt, -getElem?_pos, -List.getD_eq_getElem?_getD]
    · refine ⟨⟨rfl, by simp [-Bool.exists_bool, -Int.not_le, -Int.not_lt, -getElem?_pos, -List.getD_eq_getElem?_getD], by simp [-Bool.exists_bool, -Int.not_le, -Int.not_lt, -getElem?_pos, -List.getD_eq_getElem?_getD]; omega⟩, ?_, by simp [-Bool.exists_bool, -Int.not_le, -Int.not_lt, -getElem?_pos, -List.getD_eq_getElem?_getD, rowA, allKE], ?_⟩
      · show H (s0, j + 1 + o) = _
        rw [show j + 1 + o = j + o + 1 by omega, hF j hj]
        simp [-Bool.exists_bool, -Int.not_le, -Int.not_lt, -getElem?_pos, -List.getD_eq_getElem?_getD, mapE, rowA]
      · show (if s0 = s0 ∧ o ≤ j + 1 + o ∧ j + 1 + o ≤ o + L.length then some (j + 1 + o - o) else none) = some (j + 1)
        rw [if_pos ⟨rfl, by omega, by omega⟩]; simp [-Bool.exists_bool, -Int.not_le, -Int.not_lt, -getElem?_pos, -List.getD_eq_getElem?_getD]
  · intro k j hgj
    have hgj : (if k.1 = s0 ∧ o ≤ k.2 ∧ k.2 ≤ o + L.length then some (k.2 - o) else none) = some j := hgj
    split at hgj
    · rename_i hc
      obtain rfl := Option.some.inj hgj
      refine ⟨?_, ?_, ?_⟩
      · show (s0, k.2 - o + o) = k
        rw [Nat.sub_add_cancel hc.2.1, ← hc.1]
      · by_cases h4 : k.2 = o
        · rw [show k.2 - o + 1 = 1 by omega, mFam_1]; rfl
        · rw [show k.2 - o + 1 = (k.2 - o - 1) + 2 by omega, mFam_j, ownA_lt (by omega)]; rfl
      · have e : k = (s0, k.2) := by rw [← hc.1]
        rw [e]
        by_cases h4 : k.2 = o
        · rw [h4]; exact List.mem_cons_self
        · have := hat (k.2 - o - 1) (by omega)
          rwa [show k.2 - o - 1 + o + 1 = k.2 by omega] at this
    · exact absurd hgj (by simp [-Bool.exists_bool, -Int.not_le, -Int.not_lt, -getElem?_pos, -List.getD_eq_getElem?_getD])
  · intro k hk
    obtain ⟨h1, j, hj, rfl, _⟩ := hfam k hk
    show (if s0 = s0 ∧ o ≤ j + o ∧ j + o ≤ o + L.length then some (j + o - o) else none).isSome = true
    rw [if_pos ⟨rfl, by omega, by omega⟩]; rfl
  · intro k e hk
    rcases mFam_some hk with ⟨rfl, rfl⟩ | ⟨j, hj, rfl, rfl⟩
    · exact ⟨by show 0 < 2; omega, fun _ => by rw [mFam_1]; rfl⟩
    · exact ⟨by show 0 < 2; omega, fun _ => by rw [mFam_j, ownA_lt (by omega)]; rfl⟩
  · intro k hk
    rw [List.append_nil] at hk
    obtain ⟨h1, j, hj, rfl, h2⟩ := hfam k hk
    exact ⟨h2, .inl hn⟩
theorem RLm.mfam {P : Program} {H : Store} {n : Nat} {x : Int} (L : List At) (hl : L.length = n) (h1 : H (0, 1) = some (.row 51 L.length (rA (fun j => (0, j + 2)) 0 L))) (hF : ∀ j, j < L.length → H (0, j + 2) = some (rowA (nth L j))) : RLm P (mKey n) H (I x) (I x) (mFam L) := by
  subst hl
  refine RLm.mk (fun k => k) (fun _ _ => rfl) (by simp [-Bool.exists_bool, -Int.not_le, -Int.not_lt, -getElem?_pos, -List.getD_eq_getElem?_getD]) (by simp [-Bool.exists_bool, -Int.not_le, -Int.not_lt, -getElem?_pos, -List.getD_eq_getElem?_getD, allK]) (fun k e' hk => ?_) (fun _ _ _ _ _ _ h => h)
  rcases mFam_some hk with ⟨rfl, rfl⟩ | ⟨j, hj, rfl, rfl⟩
  · refine ⟨by show 0 < 2; omega, fun _ => ⟨rfl, by simp [-Bool.exists_bool, -Int.not_le, -Int.not_lt, -getElem?_pos, -List.getD_eq_getElem?_getD], by simp [-Bool.exists_bool, -Int.not_le, -Int.not_lt, -getElem?_pos, -List.getD_eq_getElem?_getD]⟩, ?_, _, h1, ?_⟩
    · simp only [allKE]
      exact rA_allKs _ _ 0 fun i hi _ => ⟨rfl, by simp [-Bool.exists_bool, -Int.not_le, -Int.not_lt, -getElem?_pos, -List.getD_eq_getElem?_getD], by simp [-Bool.exists_bool, -Int.not_le, -Int.not_lt, -getElem?_pos, -List.getD_eq_getElem?_getD]; omega⟩
    · simp only [ELe, true_and]
      exact rA_VLes _ 0 fun i hi => ⟨rfl, by show 0 < 2; omega⟩
  · refine ⟨by show 0 < 2; omega, fun _ => ⟨rfl, by simp [-Bool.exists_bool, -Int.not_le, -Int.not_lt, -getElem?_pos, -List.getD_eq_getElem?_getD], by simp [-Bool.exists_bool, -Int.not_le, -Int.not_lt, -getElem?_pos, -List.getD_eq_getElem?_getD]; omega⟩, by simp [-Bool.exists_bool, -Int.not_le, -Int.not_lt, -getElem?_pos, -List.getD_eq_getElem?_getD, rowA, allKE], _, hF j hj, ?_⟩
    simp only [rowA, ELe, true_and]
    exact (dl_VLes ..).2 rfl
end Go.Proofs.Ytjknjekemolndaa.ZL
namespace Go.Proofs.Ytjknjekemolndaa.ZL
open Go Go.Proofs.Ytjknjekemolndaa.Abs Go.Proofs.Ytjknjekemolndaa.Abs.Pl Go.RowKit Go.Proofs
set_option linter.unusedVariables false
set_option linter.unusedSimpArgs false
theorem markS_nth : ∀ (L : List At) (m : Int) (i : Nat), i < L.length → nth (markS L m) i = markA (nth L i) (nxtS (L.take i) m)
  | [], _, i, h => absurd h (by simp [-Bool.exists_bool, -Int.not_le, -Int.not_lt, -getElem?_pos, -List.getD_eq_getElem?_getD])
  | a :: L, m, 0, _ => rfl
  | a :: L, m, i + 1, h => by
    have := markS_nth L (m + a.1.length + 2) i (by simpa [-Bool.exists_bool, -Int.not_le, -Int.not_lt, -getElem?_pos, -List.getD_eq_getElem?_getD] using h)
    exact this
end Go.Proofs.Ytjknjekemolndaa.ZL
namespace Go.Proofs.Ytjknjekemolndaa.ZL
open Go Go.Proofs.Ytjknjekemolndaa.Abs Go.Proofs.Ytjknjekemolndaa.Abs.Pl Go.RowKit Go.Proofs
set_option linter.unusedVariables false
set_option linter.unusedSimpArgs false
attribute [simp] upMark_ne upMark_0
structure Owns (H : Store) (s : Nat) (L : List At) : Prop where
  row : H (s, 0) = some (.row 51 L.length (rA (fun j => (s, j + 1)) 0 L))
  dir : ∀ j, j < L.length → H (s, j + 1) = some (rowA (nth L j))
section
variable {H : Store} {s : Nat} {L : List At}
theorem Owns.call (s : Nat) (L : List At) (H : Store) : Owns (app (upCall s (ownR L)) H) s L := ⟨upOwn_0 s L H, fun j hj => upOwn_j s L H j hj⟩
theorem Owns.mark (s : Nat) (L : List At) (H : Store) : Owns (app (upMark s 0 L) H) s L := ⟨upMark_0 s 0 L, fun j hj => upMark_j s 0 L j hj⟩
theorem Owns.set (h : Owns H s L) {k : Key} {e : Option Ent} (hk : k.1 ≠ s) : Owns (setH k e H) s L := by
  have : ∀ j, ¬ (s, j) = k := fun j hj => hk (by rw [← hj])
  exact ⟨by unfold setH; rw [if_neg (this 0)]; exact h.row, fun j hj => by unfold setH; rw [if_neg (this _)]; exact h.dir j hj⟩
theorem Owns.other (h : Owns H s L) {s' : Nat} {R : List At} (hk : s ≠ s') : Owns (app (upCall s' (ownR R)) H) s L := ⟨by rw [upOwn_ne _ _ _ _ _ hk]; exact h.row, fun j hj => by rw [upOwn_ne _ _ _ _ _ hk]; exact h.dir j hj⟩
theorem Owns.otherM (h : Owns H s L) {s' o : Nat} {R : List At} (hk : s ≠ s') : Owns (app (upMark s' o R) H) s L := ⟨by rw [upMark_ne _ _ _ _ _ hk]; exact h.row, fun j hj => by rw [upMark_ne _ _ _ _ _ hk]; exact h.dir j hj⟩
theorem Owns.lend (h : Owns H s L) (n : Nat) (d : Int) : lendV true H (n + 2) (.agg [I d, .ref (s, 0) L.length]) = some (C1 d L, famK s 0 L.length) := by
  have : lendD true H (n + 2) (.ref (s, 0) L.length) = some (.sl L.length (asD L), famK s 0 L.length) := by
    rw [lendD_ref, h.row]
    simp only [lendR, rA_lend (H := H) (n := n) (f := fun j => (s, j + 1)) L 0 (fun i hi => by rw [Nat.zero_add]; exact h.dir i hi), consK]
    simp [-Bool.exists_bool, -Int.not_le, -Int.not_lt, -getElem?_pos, -List.getD_eq_getElem?_getD, famK]
  simp only [lendV, List.map_cons, List.map_nil, joinO, this, lendD_d]
  simp [-Bool.exists_bool, -Int.not_le, -Int.not_lt, -getElem?_pos, -List.getD_eq_getElem?_getD]
theorem famK_lt {nx n : Nat} (hn : s < nx) : ∀ k ∈ famK s 0 n, k.1 < nx := fun k hk => by
  rcases List.mem_cons.1 hk with rfl | hk
  · exact hn
  · obtain ⟨j, _, rfl⟩ := List.mem_map.1 hk
    exact hn
theorem noSh_ownR (R : List At) (k : Key) (e : Ent) (h : ownR R k = some e) : noShE e = true := by
  obtain ⟨a, b⟩ := k
  unfold ownR at h
  simp only at h
  split at h
  · cases b with
    | zero =>
      simp only [Option.some.injEq] at h
      subst h
      simp only [noShE]
      have : ∀ (L : List At) (j : Nat), noShL (rA (fun j => (0, j + 1)) j L) = true := by
        intro L
        induction L with
        | nil => intro j; rfl
        | cons a L ih => intro j; simp [-Bool.exists_bool, -Int.not_le, -Int.not_lt, -getElem?_pos, -List.getD_eq_getElem?_getD, rA, noShL, noSh, noShD, ih]
      exact this R 0
    | succ j =>
      obtain ⟨_, rfl⟩ := ownA_some h
      simp only [rowA, noShE, noShL_all]
      rw [List.all_eq_true]
      intro x hx
      obtain ⟨d, hd, rfl⟩ := List.mem_map.1 hx
      obtain ⟨n, _, rfl⟩ := List.mem_map.1 hd
      rfl
  · exact absurd h (by simp [-Bool.exists_bool, -Int.not_le, -Int.not_lt, -getElem?_pos, -List.getD_eq_getElem?_getD])
end
structure Small (L : List At) : Prop where
  len : L.length ≤ 1048576
  dir : ∀ a ∈ L, a.1.length ≤ 1048576
  nxt : nxtS L 1 ≤ 100000000000
theorem nxtS_w : ∀ (L : List At) (m : Int), nxtS L m ≤ m + 2 * wAs L
  | [], m => by simp [-Bool.exists_bool, -Int.not_le, -Int.not_lt, -getElem?_pos, -List.getD_eq_getElem?_getD, nxtS, wAs, wS]
  | a :: L, m => by
    have := nxtS_w L (m + a.1.length + 2)
    simp only [nxtS, wAs, wS, wA, List.length_cons] at this ⊢
    omega
theorem nxtS_bd (B : Nat) : ∀ (L : List At) (m : Int), (∀ a ∈ L, a.1.length ≤ B) → nxtS L m ≤ m + L.length * (B + 2)
  | [], m, _ => by simp [-Bool.exists_bool, -Int.not_le, -Int.not_lt, -getElem?_pos, -List.getD_eq_getElem?_getD, nxtS]
  | a :: L, m, h => by
    have ih := nxtS_bd B L (m + a.1.length + 2) fun x hx => h x (List.mem_cons_of_mem _ hx)
    have h0 := h a List.mem_cons_self
    have e : ((a :: L).length : Int) * (B + 2) = L.length * (B + 2) + (B + 2) := by
      rw [List.length_cons, Int.natCast_add, Int.add_mul]; simp [-Bool.exists_bool, -Int.not_le, -Int.not_lt, -getElem?_pos, -List.getD_eq_getElem?_getD]
    simp only [nxtS]
    rw [e]
    omega
theorem Small.input {L : List At} (h : wAs L ≤ 1048576) : Small L := ⟨(wAs_small h).1, (wAs_small h).2, by have := nxtS_w L 1; omega⟩
theorem Small.ok {d : Int} {L : List At} (h16 : L.length ≤ 16) (h : allOk d L) : Small L := ⟨by omega, fun a ha => okA_small (h a ha), by
  have h4 : ∀ a ∈ L, a.1.length ≤ 4 := fun a ha => (okA_num (h a ha)).2.2
  have := nxtS_bd 4 L 1 h4
  have h5 : (L.length : Int) * (4 + 2) ≤ 96 := by omega
  simp [-Bool.exists_bool, -Int.not_le, -Int.not_lt, -getElem?_pos, -List.getD_eq_getElem?_getD] at this
  omega⟩
theorem Small.nil : Small [] := ⟨by simp [-Bool.exists_bool, -Int.not_le, -Int.not_lt, -getElem?_pos, -List.getD_eq_getElem?_getD], by simp [-Bool.exists_bool, -Int.not_le, -Int.not_lt, -getElem?_pos, -List.getD_eq_getElem?_getD], by simp [-Bool.exists_bool, -Int.not_le, -Int.not_lt, -getElem?_pos, -List.getD_eq_getElem?_getD, nxtS]⟩
theorem dropD_small (d v : Int) (L : List At) : Small (dropD d L v).2.1 := by
  unfold dropD
  split
  · rename_i h
    by_cases hr : (dropC d v.toNat L).2.2 = true
    · have hd := isCe_d h.1
      have := dropC_ok hd v.toNat (isCe_l h.1) (isCe_a h.1) hr
      exact Small.ok this.2.1 this.2.2
    · rw [dropC_f hr]; exact Small.nil
  · exact Small.nil
end Go.Proofs.Ytjknjekemolndaa.ZL
namespace Go.Proofs.Ytjknjekemolndaa.ZL
open Go Go.Proofs.Ytjknjekemolndaa.Abs Go.Proofs.Ytjknjekemolndaa.Abs.Pl Go.RowKit Go.Proofs
set_option linter.unusedVariables false
set_option linter.unusedSimpArgs false
def normD (d : Int) (L : List At) : Int × List At × Bool := if isCe d L = true then (d, nrm d L, true) else (0, [], false)
theorem normD_f {d : Int} {L : List At} (h : ¬ (normD d L).2.2 = true) : normD d L = (0, [], false) := by
  unfold normD at h ⊢
  split
  · rename_i h2; rw [if_pos h2] at h; exact absurd rfl h
  · rfl
theorem normD_small (d : Int) (L : List At) : Small (normD d L).2.1 := by
  unfold normD
  split
  · rename_i h; exact Small.ok (nrm_16 d L (isCe_l h)) (nrm_okL (isCe_d h) (isCe_a h))
  · exact Small.nil
theorem lends1 {H : Store} {s1 : Nat} {c1 : Ce} (h1 : Owns H s1 c1.2) : lendVs true H 2 [.agg [I c1.1, .ref (s1, 0) c1.2.length]] = some ([.agg (cV c1)], famK s1 0 c1.2.length) := by
  simp only [lendVs, h1.lend 0 c1.1]; simp [-Bool.exists_bool, -Int.not_le, -Int.not_lt, -getElem?_pos, -List.getD_eq_getElem?_getD]
theorem lends2 {H : Store} {s1 s2 : Nat} {c1 c2 : Ce} (h1 : Owns H s1 c1.2) (h2 : Owns H s2 c2.2) : lendVs true H 2 [.agg [I c1.1, .ref (s1, 0) c1.2.length], .agg [I c2.1, .ref (s2, 0) c2.2.length]] = some ([.agg (cV c1), .agg (cV c2)], famK s1 0 c1.2.length ++ famK s2 0 c2.2.length) := by
  simp only [lendVs, h1.lend 0 c1.1, h2.lend 0 c2.1]; simp [-Bool.exists_bool, -Int.not_le, -Int.not_lt, -getElem?_pos, -List.getD_eq_getElem?_getD]
theorem lends1i {H : Store} {s1 : Nat} {c1 : Ce} {v : Int} (h1 : Owns H s1 c1.2) : lendVs true H 2 [.agg [I c1.1, .ref (s1, 0) c1.2.length], I v] = some ([.agg (cV c1), I v], famK s1 0 c1.2.length) := by
  simp only [lendVs, h1.lend 0 c1.1]; simp [-Bool.exists_bool, -Int.not_le, -Int.not_lt, -getElem?_pos, -List.getD_eq_getElem?_getD, lendV]
end Go.Proofs.Ytjknjekemolndaa.ZL
namespace Go.Proofs.Ytjknjekemolndaa.ZL
open Go Go.Proofs.Ytjknjekemolndaa.Abs Go.Proofs.Ytjknjekemolndaa.Abs.Pl Go.RowKit Go.Proofs
set_option linter.unusedVariables false
set_option linter.unusedSimpArgs false
abbrev Ra (n d : Int) : V := .agg [I n, I d]
theorem isNum_63 {x : Int} (h : isNum x = true) : bd63 x := by have := isNum_iff.1 h; constructor <;> omega
theorem iGcdOf (a b : Int) : Cn Try.prog 48 [I a, I b] (I (gcdOf a b)) hemp := by
  refine Cn.of [] mixed Try.func48 rfl Try.call48 (by kernel_rfl) rfl ?_
  simp -implicitDefEqProofs -dsimp +contextual [-Bool.exists_bool, -Int.not_le, -Int.not_lt, -getElem?_pos, -List.getD_eq_getElem?_getD, Try.f48]
  refine CallJ.pure (iIsNumber a) rfl (by simp [-Bool.exists_bool, -Int.not_le, -Int.not_lt, -getElem?_pos, -List.getD_eq_getElem?_getD]) ?_
  simp -implicitDefEqProofs -dsimp +contextual [-Bool.exists_bool, -Int.not_le, -Int.not_lt, -getElem?_pos, -List.getD_eq_getElem?_getD]
  refine ⟨fun h1 => ?_, fun h1 => RLe.pure 1 (by simp [-Bool.exists_bool, -Int.not_le, -Int.not_lt, -getElem?_pos, -List.getD_eq_getElem?_getD, gcdOf, h1])⟩
  refine CallJ.pure (iIsNumber b) rfl (by simp [-Bool.exists_bool, -Int.not_le, -Int.not_lt, -getElem?_pos, -List.getD_eq_getElem?_getD]) ?_
  simp -implicitDefEqProofs -dsimp +contextual [-Bool.exists_bool, -Int.not_le, -Int.not_lt, -getElem?_pos, -List.getD_eq_getElem?_getD, h1]
  refine ⟨fun h2 => ?_, fun h2 => RLe.pure 1 (by simp [-Bool.exists_bool, -Int.not_le, -Int.not_lt, -getElem?_pos, -List.getD_eq_getElem?_getD, gcdOf, h1, h2])⟩
  refine CallJ.pure (iCommonDivisor a b (isNum_63 h1) (isNum_63 h2)) rfl (by simp [-Bool.exists_bool, -Int.not_le, -Int.not_lt, -getElem?_pos, -List.getD_eq_getElem?_getD]) ?_
  simp -implicitDefEqProofs -dsimp +contextual [-Bool.exists_bool, -Int.not_le, -Int.not_lt, -getElem?_pos, -List.getD_eq_getElem?_getD, h1, h2]
  exact RLe.pure 1 (by simp [-Bool.exists_bool, -Int.not_le, -Int.not_lt, -getElem?_pos, -List.getD_eq_getElem?_getD, gcdOf, h1, h2])
theorem isRat_gcd {n d : Int} : isRat n d = (decide (1 ≤ d) && decide (d ≤ 400000000) && isNum n && decide (gcdOf n d = 1)) := by
  unfold isRat gcdOf isNum
  by_cases h1 : 1 ≤ d <;> by_cases h2 : d ≤ 400000000 <;> by_cases h3 : -400000000 ≤ n <;> by_cases h4 : n ≤ 400000000 <;> simp [-Bool.exists_bool, -Int.not_le, -Int.not_lt, -getElem?_pos, -List.getD_eq_getElem?_getD, h1, h2, h3, h4]
  rw [if_pos (by omega)]
  omega
theorem IsRatio (n d : Int) : Cn Try.prog 73 [Ra n d] (B (isRat n d)) hemp := by
  refine Cn.of [] mixed Try.func73 rfl Try.call73 (by kernel_rfl) rfl ?_
  simp -implicitDefEqProofs -dsimp +contextual [-Bool.exists_bool, -Int.not_le, -Int.not_lt, -getElem?_pos, -List.getD_eq_getElem?_getD, Try.f73]
  refine CallJ.pure (l1In d 1 400000000) rfl (by simp [-Bool.exists_bool, -Int.not_le, -Int.not_lt, -getElem?_pos, -List.getD_eq_getElem?_getD]) ?_
  rw [isRat_gcd]
  simp -implicitDefEqProofs -dsimp +contextual [-Bool.exists_bool, -Int.not_le, -Int.not_lt, -getElem?_pos, -List.getD_eq_getElem?_getD]
  refine ⟨fun h1 => ?_, fun h1 => ?_⟩
  · have h1' : 1 ≤ d ∧ d ≤ 400000000 := by simpa [-Bool.exists_bool, -Int.not_le, -Int.not_lt, -getElem?_pos, -List.getD_eq_getElem?_getD, inB] using h1
    refine CallJ.pure (IsNumber n) rfl (by simp [-Bool.exists_bool, -Int.not_le, -Int.not_lt, -getElem?_pos, -List.getD_eq_getElem?_getD]) ?_
    simp -implicitDefEqProofs -dsimp +contextual [-Bool.exists_bool, -Int.not_le, -Int.not_lt, -getElem?_pos, -List.getD_eq_getElem?_getD, h1, h1']
    refine ⟨fun h2 => ?_, fun h2 => RLe.bb (by simp [-Bool.exists_bool, -Int.not_le, -Int.not_lt, -getElem?_pos, -List.getD_eq_getElem?_getD, h2])⟩
    refine CallJ.pure (GcdOf n d) rfl (by simp [-Bool.exists_bool, -Int.not_le, -Int.not_lt, -getElem?_pos, -List.getD_eq_getElem?_getD]) ?_
    simp -implicitDefEqProofs -dsimp +contextual [-Bool.exists_bool, -Int.not_le, -Int.not_lt, -getElem?_pos, -List.getD_eq_getElem?_getD, h1, h2]
    exact RLe.bb (by simp [-Bool.exists_bool, -Int.not_le, -Int.not_lt, -getElem?_pos, -List.getD_eq_getElem?_getD, h1'])
  · refine RLe.bb ?_
    have : ¬ (1 ≤ d ∧ d ≤ 400000000) := by simpa [-Bool.exists_bool, -Int.not_le, -Int.not_lt, -getElem?_pos, -List.getD_eq_getElem?_getD, inB] using h1
    by_cases h2 : 1 ≤ d
    · have h3 : ¬ d ≤ 400000000 := fun h3 => this ⟨h2, h3⟩
      simp [-Bool.exists_bool, -Int.not_le, -Int.not_lt, -getElem?_pos, -List.getD_eq_getElem?_getD, h3]
    · simp [-Bool.exists_bool, -Int.not_le, -Int.not_lt, -getElem?_pos, -List.getD_eq_getElem?_getD, h2]
theorem iIsRatio (n d : Int) : Cn Try.prog 22 [Ra n d] (B (isRat n d)) hemp := by
  refine Cn.of [] mixed Try.func22 rfl Try.call22 (by kernel_rfl) rfl ?_
  rw [isRat_gcd]
  simp -implicitDefEqProofs -dsimp +contextual [-Bool.exists_bool, -Int.not_le, -Int.not_lt, -getElem?_pos, -List.getD_eq_getElem?_getD, Try.f22]
  refine ⟨fun h1 => ⟨fun h1b => ?_, fun _ => RLe.bb rfl⟩, fun _ => RLe.bb rfl⟩
  refine CallJ.pure (iIsNumber n) rfl (by simp [-Bool.exists_bool, -Int.not_le, -Int.not_lt, -getElem?_pos, -List.getD_eq_getElem?_getD]) ?_
  simp -implicitDefEqProofs -dsimp +contextual [-Bool.exists_bool, -Int.not_le, -Int.not_lt, -getElem?_pos, -List.getD_eq_getElem?_getD, h1, h1b]
  refine ⟨fun h2 => ?_, fun h2 => RLe.bb (by simp [-Bool.exists_bool, -Int.not_le, -Int.not_lt, -getElem?_pos, -List.getD_eq_getElem?_getD, h2])⟩
  refine CallJ.pure (iGcdOf n d) rfl (by simp [-Bool.exists_bool, -Int.not_le, -Int.not_lt, -getElem?_pos, -List.getD_eq_getElem?_getD]) ?_
  simp -implicitDefEqProofs -dsimp +contextual [-Bool.exists_bool, -Int.not_le, -Int.not_lt, -getElem?_pos, -List.getD_eq_getElem?_getD, h1, h1b, h2]
  exact RLe.bb (by simp [-Bool.exists_bool, -Int.not_le, -Int.not_lt, -getElem?_pos, -List.getD_eq_getElem?_getD])
def fixI (l : List Int) (v : Nat) (d : Int) : List Int := (l.map (· * d)).set v 0
def fixA (a : At) (v n d : Int) : At2 := if isAt a.1 a.2.1 = true ∧ isRat n d = true ∧ 0 ≤ v ∧ v < a.1.length then mkAt (fixI a.1 v.toNat d) (a.2.1 * d + nth a.1 v.toNat * n) a.2.2 else noAt
theorem fixI_len (l : List Int) (v : Nat) (d : Int) : (fixI l v d).length = l.length := by simp [-Bool.exists_bool, -Int.not_le, -Int.not_lt, -getElem?_pos, -List.getD_eq_getElem?_getD, fixI]
theorem fixI_nth (l : List Int) (v : Nat) (d : Int) (i : Nat) (h : i < l.length) : nth (fixI l v d) i = if i = v then 0 else nth l i * d := by
  rw [nth_eq (by rw [fixI_len]; exact h), nth_eq h]
  unfold fixI
  rw [List.getElem_set]
  simp only [List.getElem_map]
  by_cases e : v = i
  · rw [if_pos e, if_pos e.symm]
  · rw [if_neg e, if_neg (fun h => e h.symm)]
theorem mul_bd {x y : Int} (hx : isNum x = true) (hy : -400000000 ≤ y ∧ y ≤ 400000000) : -160000000000000000 ≤ x * y ∧ x * y ≤ 160000000000000000 := by
  have hx := isNum_iff.1 hx
  have h1 : (x * y).natAbs ≤ 400000000 * 400000000 := by
    rw [Int.natAbs_mul]
    exact Nat.mul_le_mul (by omega) (by omega)
  omega
def muls (l : List Int) (d : Int) (i : Nat) : List Int := (l.take i).map (· * d) ++ List.replicate (l.length - i) 0
theorem muls_len (l : List Int) (d : Int) (i : Nat) (h : i ≤ l.length) : (muls l d i).length = l.length := by simp [-Bool.exists_bool, -Int.not_le, -Int.not_lt, -getElem?_pos, -List.getD_eq_getElem?_getD, muls]; omega
theorem muls_set (l : List Int) (d : Int) (i : Nat) (h : i < l.length) : (muls l d i).set i (nth l i * d) = muls l d (i + 1) := by
  have e : l.length - i = (l.length - (i + 1)) + 1 := by omega
  unfold muls
  rw [e, List.replicate_succ, nth_take h, List.set_append_right _ _ (by simp [-Bool.exists_bool, -Int.not_le, -Int.not_lt, -getElem?_pos, -List.getD_eq_getElem?_getD]; omega)]
  simp [-Bool.exists_bool, -Int.not_le, -Int.not_lt, -getElem?_pos, -List.getD_eq_getElem?_getD, Nat.min_eq_left (Nat.le_of_lt h)]
theorem iFixVariable (a : At) (v n d : Int) (h20 : a.1.length ≤ 1048576) : Cn Try.prog 19 [A1 a, I v, Ra n d] (A2 (fixA a v n d)) hemp := by
  refine Cn.of [0] mixed Try.func19 rfl Try.call19 (by kernel_rfl) rfl ?_
  simp -implicitDefEqProofs -dsimp +contextual [-Bool.exists_bool, -Int.not_le, -Int.not_lt, -getElem?_pos, -List.getD_eq_getElem?_getD, Try.f19]
  have no : ∀ {H : Store}, ¬ (isAt a.1 a.2.1 = true ∧ isRat n d = true ∧ 0 ≤ v ∧ v < a.1.length) → RLe Try.prog H (V.tup [V.agg [V.nil, V.d (D.int IntKind.i64 0), V.d (D.bool false)], V.d (D.bool false)]) (A2 (fixA a v n d)) hemp := fun h => by
    rw [fixA, if_neg h]
    exact RLe.pure 3 (by simp [-Bool.exists_bool, -Int.not_le, -Int.not_lt, -getElem?_pos, -List.getD_eq_getElem?_getD, noAt])
  refine CallJ.pure (iIsAtom a) rfl (by simp [-Bool.exists_bool, -Int.not_le, -Int.not_lt, -getElem?_pos, -List.getD_eq_getElem?_getD]) ?_
  simp -implicitDefEqProofs -dsimp +contextual [-Bool.exists_bool, -Int.not_le, -Int.not_lt, -getElem?_pos, -List.getD_eq_getElem?_getD]
  refine ⟨fun h1 => ?_, fun h1 => no (by simp [-Bool.exists_bool, -Int.not_le, -Int.not_lt, -getElem?_pos, -List.getD_eq_getElem?_getD, h1])⟩
  refine CallJ.pure (iIsRatio n d) rfl (by simp [-Bool.exists_bool, -Int.not_le, -Int.not_lt, -getElem?_pos, -List.getD_eq_getElem?_getD]) ?_
  simp -implicitDefEqProofs -dsimp +contextual [-Bool.exists_bool, -Int.not_le, -Int.not_lt, -getElem?_pos, -List.getD_eq_getElem?_getD, h1]
  refine ⟨fun h2 => ?_, fun h2 => no (by simp [-Bool.exists_bool, -Int.not_le, -Int.not_lt, -getElem?_pos, -List.getD_eq_getElem?_getD, h2])⟩
  have p := isAt_iff.1 h1
  have q := isRat_iff.1 h2
  have hlen : a.1.length ≤ 4 := p.1
  refine ⟨fun h3 => no (by omega), fun h3 => ⟨fun h4 => no (by omega), fun h4 => ?_⟩⟩
  have hv : 0 ≤ v ∧ v < a.1.length := by omega
  rw [fixA, if_pos ⟨h1, h2, hv⟩]
  obtain ⟨v', rfl⟩ : ∃ v' : Nat, v = v' := ⟨v.toNat, by omega⟩
  simp only [Int.toNat_natCast]
  have hv' : v' < a.1.length := by omega
  refine ⟨⟨by omega, by simp [-Bool.exists_bool, -Int.not_le, -Int.not_lt, -getElem?_pos, -List.getD_eq_getElem?_getD, maxLen]; omega⟩, ?_⟩
  refine WP.loop mixed [0] (fun i : Nat => ⟨tl [(1, I v'), (3, .ptr (0, 0) 0), (5, .ptr (1, 0) 0), (6, .ptr (2, 0) 0), (8, .ref (3, 0) a.1.length), (35, I a.1.length), (36, I i)], hl [((0, 0), .box (aV a)), ((1, 0), .box [I n, I d]), ((2, 0), .box [.nil, I 0, B false]), ((3, 0), .row 3 a.1.length (dl ((muls a.1 d i).map (.int .i64))))], 4⟩) (fun i => i ≤ a.1.length) (fun i => a.1.length - i) 0 (by kernel_rfl) ?_ ?_ ?_
  · refine Le.told [((3, 0), (26, 0))] ?_ ?_ ?_ <;> simp [-Bool.exists_bool, -Int.not_le, -Int.not_lt, -getElem?_pos, -List.getD_eq_getElem?_getD, setH, muls]
  · simp [-Bool.exists_bool, -Int.not_le, -Int.not_lt, -getElem?_pos, -List.getD_eq_getElem?_getD]
  · intro i hi
    by_cases h : i < a.1.length
    · have hb := mul_bd (p.2.2.1 _ (nth_mem h)) (by omega : -400000000 ≤ d ∧ d ≤ 400000000)
      have hl1 : i + 1 ≤ (muls a.1 d i).length := by rw [muls_len _ _ _ hi]; exact h
      simp -implicitDefEqProofs -dsimp +contextual [-Bool.exists_bool, -Int.not_le, -Int.not_lt, -getElem?_pos, -List.getD_eq_getElem?_getD, h, hl1]
      refine ⟨Quiet.of [] (by kernel_rfl) (by simp [-Bool.exists_bool, -Int.not_le, -Int.not_lt, -getElem?_pos, -List.getD_eq_getElem?_getD, allP]), i + 1, h, by omega, ?_⟩
      rw [wr (by omega) (by omega), wr (by omega) (by omega)]
      refine Le.told [] ?_ ?_ ?_ <;> simp [-Bool.exists_bool, -Int.not_le, -Int.not_lt, -getElem?_pos, -List.getD_eq_getElem?_getD]
      rw [← muls_set a.1 d i h, List.map_set, List.set_eq_take_append_cons_drop, if_pos (by rw [List.length_map]; exact hl1)]
    · obtain rfl : i = a.1.length := by omega
      have hm : muls a.1 d a.1.length = a.1.map (· * d) := by simp [-Bool.exists_bool, -Int.not_le, -Int.not_lt, -getElem?_pos, -List.getD_eq_getElem?_getD, muls]
      have hl2 : v' + 1 ≤ a.1.length := hv'
      rw [hm]
      simp -implicitDefEqProofs -dsimp +contextual [-Bool.exists_bool, -Int.not_le, -Int.not_lt, -getElem?_pos, -List.getD_eq_getElem?_getD, hv', hl2]
      have hx : (a.1.map (D.int IntKind.i64 ∘ fun x => x * d)).take v' ++ D.int IntKind.i64 0 :: (a.1.map (D.int IntKind.i64 ∘ fun x => x * d)).drop (v' + 1) = (fixI a.1 v' d).map (.int .i64) := by
        rw [fixI, List.map_set, List.set_eq_take_append_cons_drop, if_pos (by simpa [-Bool.exists_bool, -Int.not_le, -Int.not_lt, -getElem?_pos, -List.getD_eq_getElem?_getD] using hv'), List.map_map]
      have hb1 := mul_bd p.2.1 (by omega : -400000000 ≤ d ∧ d ≤ 400000000)
      have hb2 := mul_bd (p.2.2.1 _ (nth_mem hv')) q.2.1
      have w1 : IntKind.wrap .i64 (a.2.1 * d) = a.2.1 * d := wr (by omega) (by omega)
      have w2 : IntKind.wrap .i64 (nth a.1 v' * n) = nth a.1 v' * n := wr (by omega) (by omega)
      rw [hx, w1, w2, wr (by omega) (by omega)]
      have hL := iMakeOf (fixI a.1 v' d) (a.2.1 * d + nth a.1 v' * n) a.2.2 (by rw [fixI_len]; omega) (fun y hy => ?_) ⟨by omega, by omega⟩
      · refine CallJ.frz (t := 3) (n := a.1.length) (c := dl ((fixI a.1 v' d).map (.int .i64))) (c' := (fixI a.1 v' d).map (.int .i64)) (3, 0) hL (by simp [-Bool.exists_bool, -Int.not_le, -Int.not_lt, -getElem?_pos, -List.getD_eq_getElem?_getD]) (dl_asDs _) (ks := [(3, 0)]) (by simp [-Bool.exists_bool, -Int.not_le, -Int.not_lt, -getElem?_pos, -List.getD_eq_getElem?_getD, setH, fixI_len]) (by simp [-Bool.exists_bool, -Int.not_le, -Int.not_lt, -getElem?_pos, -List.getD_eq_getElem?_getD]) ?_
        simp -implicitDefEqProofs -dsimp +contextual [-Bool.exists_bool, -Int.not_le, -Int.not_lt, -getElem?_pos, -List.getD_eq_getElem?_getD, hv']
        refine ⟨Quiet.of [] (by kernel_rfl) (by simp [-Bool.exists_bool, -Int.not_le, -Int.not_lt, -getElem?_pos, -List.getD_eq_getElem?_getD, allP]), ?_⟩
        exact ⟨Quiet.of [] (by kernel_rfl) (by simp [-Bool.exists_bool, -Int.not_le, -Int.not_lt, -getElem?_pos, -List.getD_eq_getElem?_getD, allP]), RLe.pure 3 (by simp [-Bool.exists_bool, -Int.not_le, -Int.not_lt, -getElem?_pos, -List.getD_eq_getElem?_getD])⟩
      · obtain ⟨i, hi, rfl⟩ := List.getElem_of_mem hy
        have hi' : i < a.1.length := by rwa [fixI_len] at hi
        have e := fixI_nth a.1 v' d i hi'
        rw [nth_eq hi] at e
        rw [e]
        have := mul_bd (p.2.2.1 _ (nth_mem hi')) (by omega : -400000000 ≤ d ∧ d ≤ 400000000)
        split <;> constructor <;> omega
end Go.Proofs.Ytjknjekemolndaa.ZL
namespace Go.Proofs.Ytjknjekemolndaa.ZL
open Go Go.Proofs.Ytjknjekemolndaa.Abs Go.Proofs.Ytjknjekemolndaa.Abs.Pl Go.RowKit Go.Proofs
set_option linter.unusedVariables false
set_option linter.unusedSimpArgs false
def mkR (n d : Int) : Int × Int := if d = 0 then (0, 0) else if isRat ((if d < 0 then -n else n).tdiv (Int.gcd n d)) ((if d < 0 then -d else d).tdiv (Int.gcd n d)) = true then ((if d < 0 then -n else n).tdiv (Int.gcd n d), (if d < 0 then -d else d).tdiv (Int.gcd n d)) else (0, 0)
theorem tdiv_bd {x : Int} {g : Nat} (h : bd63 x) : bd63 (x.tdiv g) := by
  obtain ⟨h1, h2⟩ := h
  have h3 : (x.tdiv g).natAbs ≤ x.natAbs := by
    rw [Int.natAbs_tdiv]
    exact Nat.div_le_self _ _
  constructor <;> omega
theorem iReduced (n d : Int) (hn : bd63 n) (hd : bd63 d) : Cn Try.prog 45 [I n, I d] (Ra (mkR n d).1 (mkR n d).2) hemp := by
  refine Cn.of [] mixed Try.func45 rfl Try.call45 (by kernel_rfl) rfl ?_
  simp -implicitDefEqProofs -dsimp +contextual [-Bool.exists_bool, -Int.not_le, -Int.not_lt, -getElem?_pos, -List.getD_eq_getElem?_getD, Try.f45]
  obtain ⟨n1, n2⟩ := hn
  obtain ⟨d1, d2⟩ := hd
  refine ⟨fun h0 => RLe.pure 2 (by simp [-Bool.exists_bool, -Int.not_le, -Int.not_lt, -getElem?_pos, -List.getD_eq_getElem?_getD, mkR, h0]), fun h0 => ?_⟩
  have hg : (Int.gcd n d : Int) ≠ 0 := by
    intro h
    have := Int.gcd_eq_zero_iff.1 (Int.ofNat_eq_zero.1 h)
    exact h0 this.2
  refine ⟨fun hneg => ?_, fun hneg => ?_⟩
  · rw [wr (by omega) (by omega), wr (by omega) (by omega)]
    refine CallJ.pure (iCommonDivisor (-n) (-d) ⟨by omega, by omega⟩ ⟨by omega, by omega⟩) rfl (by simp [-Bool.exists_bool, -Int.not_le, -Int.not_lt, -getElem?_pos, -List.getD_eq_getElem?_getD]) ?_
    have eg : Int.gcd (-n) (-d) = Int.gcd n d := by rw [Int.gcd_neg, Int.neg_gcd]
    rw [eg]
    simp -implicitDefEqProofs -dsimp +contextual [-Bool.exists_bool, -Int.not_le, -Int.not_lt, -getElem?_pos, -List.getD_eq_getElem?_getD]
    refine ⟨fun _ => h0, ?_⟩
    have b1 := tdiv_bd (g := Int.gcd n d) (x := n) ⟨by omega, by omega⟩
    have b2 := tdiv_bd (g := Int.gcd n d) (x := d) ⟨by omega, by omega⟩
    rw [wr (by have := b1.2; omega) (by have := b1.1; omega), wr (by have := b2.2; omega) (by have := b2.1; omega)]
    have em : mkR n d = if isRat (-(n.tdiv (Int.gcd n d))) (-(d.tdiv (Int.gcd n d))) = true then (-(n.tdiv (Int.gcd n d)), -(d.tdiv (Int.gcd n d))) else (0, 0) := by rw [mkR, if_neg h0]; simp only [hneg, if_true, Int.neg_tdiv]
    rw [em]
    refine CallJ.pure (iIsRatio _ _) rfl (by simp [-Bool.exists_bool, -Int.not_le, -Int.not_lt, -getElem?_pos, -List.getD_eq_getElem?_getD]) ?_
    generalize isRat (-(n.tdiv (Int.gcd n d))) (-(d.tdiv (Int.gcd n d))) = q
    cases q
    · simp -implicitDefEqProofs -dsimp +contextual [-Bool.exists_bool, -Int.not_le, -Int.not_lt, -getElem?_pos, -List.getD_eq_getElem?_getD]
      exact RLe.pure 2 (by simp [-Bool.exists_bool, -Int.not_le, -Int.not_lt, -getElem?_pos, -List.getD_eq_getElem?_getD])
    · simp -implicitDefEqProofs -dsimp +contextual [-Bool.exists_bool, -Int.not_le, -Int.not_lt, -getElem?_pos, -List.getD_eq_getElem?_getD]
      exact RLe.pure 2 (by simp [-Bool.exists_bool, -Int.not_le, -Int.not_lt, -getElem?_pos, -List.getD_eq_getElem?_getD])
  · refine CallJ.pure (iCommonDivisor n d ⟨by omega, by omega⟩ ⟨by omega, by omega⟩) rfl (by simp [-Bool.exists_bool, -Int.not_le, -Int.not_lt, -getElem?_pos, -List.getD_eq_getElem?_getD]) ?_
    simp -implicitDefEqProofs -dsimp +contextual [-Bool.exists_bool, -Int.not_le, -Int.not_lt, -getElem?_pos, -List.getD_eq_getElem?_getD]
    refine ⟨fun _ => h0, ?_⟩
    have b1 := tdiv_bd (g := Int.gcd n d) (x := n) ⟨by omega, by omega⟩
    have b2 := tdiv_bd (g := Int.gcd n d) (x := d) ⟨by omega, by omega⟩
    rw [wr (by have := b1.1; omega) (by have := b1.2; omega), wr (by have := b2.1; omega) (by have := b2.2; omega)]
    have em : mkR n d = if isRat (n.tdiv (Int.gcd n d)) (d.tdiv (Int.gcd n d)) = true then (n.tdiv (Int.gcd n d), d.tdiv (Int.gcd n d)) else (0, 0) := by rw [mkR, if_neg h0]; simp only [hneg, if_true, if_false]
    rw [em]
    refine CallJ.pure (iIsRatio _ _) rfl (by simp [-Bool.exists_bool, -Int.not_le, -Int.not_lt, -getElem?_pos, -List.getD_eq_getElem?_getD]) ?_
    generalize isRat (n.tdiv (Int.gcd n d)) (d.tdiv (Int.gcd n d)) = q
    cases q
    · simp -implicitDefEqProofs -dsimp +contextual [-Bool.exists_bool, -Int.not_le, -Int.not_lt, -getElem?_pos, -List.getD_eq_getElem?_getD]
      exact RLe.pure 2 (by simp [-Bool.exists_bool, -Int.not_le, -Int.not_lt, -getElem?_pos, -List.getD_eq_getElem?_getD])
    · simp -implicitDefEqProofs -dsimp +contextual [-Bool.exists_bool, -Int.not_le, -Int.not_lt, -getElem?_pos, -List.getD_eq_getElem?_getD]
      exact RLe.pure 2 (by simp [-Bool.exists_bool, -Int.not_le, -Int.not_lt, -getElem?_pos, -List.getD_eq_getElem?_getD])
def cmpR (a b : Int × Int) : Int := if isRat a.1 a.2 = true ∧ isRat b.1 b.2 = true then (if a.1 * b.2 < b.1 * a.2 then -1 else if b.1 * a.2 < a.1 * b.2 then 1 else 0) else 2
theorem rat_mul {n d n' d' : Int} (h : isRat n d = true) (h' : isRat n' d' = true) : -160000000000000000 ≤ n * d' ∧ n * d' ≤ 160000000000000000 := by
  have q := isRat_iff.1 h
  have q' := isRat_iff.1 h'
  exact mul_bd (isNum_iff.2 ⟨by omega, by omega⟩) ⟨by omega, by omega⟩
theorem iCompareRatios (a b : Int × Int) : Cn Try.prog 46 [Ra a.1 a.2, Ra b.1 b.2] (I (cmpR a b)) hemp := by
  refine Cn.of [] mixed Try.func46 rfl Try.call46 (by kernel_rfl) rfl ?_
  simp -implicitDefEqProofs -dsimp +contextual [-Bool.exists_bool, -Int.not_le, -Int.not_lt, -getElem?_pos, -List.getD_eq_getElem?_getD, Try.f46]
  refine CallJ.pure (iIsRatio a.1 a.2) rfl (by simp [-Bool.exists_bool, -Int.not_le, -Int.not_lt, -getElem?_pos, -List.getD_eq_getElem?_getD]) ?_
  simp -implicitDefEqProofs -dsimp +contextual [-Bool.exists_bool, -Int.not_le, -Int.not_lt, -getElem?_pos, -List.getD_eq_getElem?_getD]
  refine ⟨fun h1 => ?_, fun h1 => RLe.pure 1 (by simp [-Bool.exists_bool, -Int.not_le, -Int.not_lt, -getElem?_pos, -List.getD_eq_getElem?_getD, cmpR, h1])⟩
  refine CallJ.pure (iIsRatio b.1 b.2) rfl (by simp [-Bool.exists_bool, -Int.not_le, -Int.not_lt, -getElem?_pos, -List.getD_eq_getElem?_getD]) ?_
  simp -implicitDefEqProofs -dsimp +contextual [-Bool.exists_bool, -Int.not_le, -Int.not_lt, -getElem?_pos, -List.getD_eq_getElem?_getD, h1]
  refine ⟨fun h2 => ?_, fun h2 => RLe.pure 1 (by simp [-Bool.exists_bool, -Int.not_le, -Int.not_lt, -getElem?_pos, -List.getD_eq_getElem?_getD, cmpR, h1, h2])⟩
  have m1 := rat_mul h1 h2
  have m2 := rat_mul h2 h1
  rw [wr (by omega) (by omega), wr (by omega) (by omega)]
  have e : cmpR a b = if a.1 * b.2 < b.1 * a.2 then -1 else if b.1 * a.2 < a.1 * b.2 then 1 else 0 := by rw [cmpR, if_pos ⟨h1, h2⟩]
  rw [e]
  exact ⟨fun h => RLe.ii (by simp [-Bool.exists_bool, -Int.not_le, -Int.not_lt, -getElem?_pos, -List.getD_eq_getElem?_getD, h]), fun h => ⟨fun h' => RLe.ii (by simp [-Bool.exists_bool, -Int.not_le, -Int.not_lt, -getElem?_pos, -List.getD_eq_getElem?_getD, h, h']), fun h' => RLe.ii (by simp [-Bool.exists_bool, -Int.not_le, -Int.not_lt, -getElem?_pos, -List.getD_eq_getElem?_getD, h, h'])⟩⟩
theorem l2Make (n d : Int) (hn : -1000000000000000000 ≤ n ∧ n ≤ 1000000000000000000) (hd : -1000000000000000000 ≤ d ∧ d ≤ 1000000000000000000) : Cn Try.prog 56 [I n, I d] (Ra (mkR n d).1 (mkR n d).2) hemp := by
  refine Cn.of [] mixed Try.func56 rfl Try.call56 (by kernel_rfl) rfl ?_
  simp -implicitDefEqProofs -dsimp +contextual [-Bool.exists_bool, -Int.not_le, -Int.not_lt, -getElem?_pos, -List.getD_eq_getElem?_getD, Try.f56]
  refine ⟨fun h0 => RLe.pure 2 (by simp [-Bool.exists_bool, -Int.not_le, -Int.not_lt, -getElem?_pos, -List.getD_eq_getElem?_getD, mkR, h0]), fun h0 => ?_⟩
  have hg : (Int.gcd n d : Int) ≠ 0 := by
    intro h
    have := Int.gcd_eq_zero_iff.1 (Int.ofNat_eq_zero.1 h)
    exact h0 this.2
  refine ⟨fun hneg => ?_, fun hneg => ?_⟩
  · rw [wr (by omega) (by omega), wr (by omega) (by omega)]
    refine WP.loop mixed [] (fun p : Int × Int => ⟨tl [(0, I (-n)), (1, I (-d)), (4, .ptr (0, 0) 0), (5, I p.1), (6, I p.2)], hl [((0, 0), .box [I 0, I 0])], 1⟩) (fun p => (-1000000000000000000 ≤ p.1 ∧ p.1 ≤ 1000000000000000000) ∧ (-1000000000000000000 ≤ p.2 ∧ p.2 ≤ 1000000000000000000) ∧ Int.gcd p.1 p.2 = Int.gcd n d) (fun p => p.2.natAbs) (-n, -d) (by kernel_rfl) ?_ ?_ ?_
    · refine Le.told [] ?_ ?_ ?_ <;> simp [-Bool.exists_bool, -Int.not_le, -Int.not_lt, -getElem?_pos, -List.getD_eq_getElem?_getD, setH]
    · exact ⟨⟨by simp only; omega, by simp only; omega⟩, ⟨by simp only; omega, by simp only; omega⟩, by simp [-Bool.exists_bool, -Int.not_le, -Int.not_lt, -getElem?_pos, -List.getD_eq_getElem?_getD]⟩
    · rintro ⟨x, y⟩ ⟨hx, hy, he⟩
      simp only at hx hy he
      simp -implicitDefEqProofs -dsimp +contextual [-Bool.exists_bool, -Int.not_le, -Int.not_lt, -getElem?_pos, -List.getD_eq_getElem?_getD]
      refine ⟨?_, ?_⟩
      · rintro rfl
        refine CallJ.pure (l1Abs x (by omega) (by omega)) rfl (by simp [-Bool.exists_bool, -Int.not_le, -Int.not_lt, -getElem?_pos, -List.getD_eq_getElem?_getD]) ?_
        have ex : (x.natAbs : Int) = Int.gcd n d := by rw [← he]; simp [-Bool.exists_bool, -Int.not_le, -Int.not_lt, -getElem?_pos, -List.getD_eq_getElem?_getD]
        simp -implicitDefEqProofs -dsimp +contextual [-Bool.exists_bool, -Int.not_le, -Int.not_lt, -getElem?_pos, -List.getD_eq_getElem?_getD]
        rw [ex]
        refine ⟨fun hx0 => hg (by rw [← ex, hx0]; rfl), ?_⟩
        have b1 := tdiv_bd (g := Int.gcd n d) (x := n) ⟨by omega, by omega⟩
        have b2 := tdiv_bd (g := Int.gcd n d) (x := d) ⟨by omega, by omega⟩
        rw [wr (by have := b1.2; omega) (by have := b1.1; omega), wr (by have := b2.2; omega) (by have := b2.1; omega)]
        have em : mkR n d = if isRat (-(n.tdiv (Int.gcd n d))) (-(d.tdiv (Int.gcd n d))) = true then (-(n.tdiv (Int.gcd n d)), -(d.tdiv (Int.gcd n d))) else (0, 0) := by rw [mkR, if_neg h0]; simp only [hneg, if_true, if_false, Int.neg_tdiv]
        rw [em]
        refine CallJ.pure (IsRatio _ _) rfl (by simp [-Bool.exists_bool, -Int.not_le, -Int.not_lt, -getElem?_pos, -List.getD_eq_getElem?_getD]) ?_
        generalize isRat (-(n.tdiv (Int.gcd n d))) (-(d.tdiv (Int.gcd n d))) = q
        cases q
        · simp -implicitDefEqProofs -dsimp +contextual [-Bool.exists_bool, -Int.not_le, -Int.not_lt, -getElem?_pos, -List.getD_eq_getElem?_getD]
          exact RLe.pure 2 (by simp [-Bool.exists_bool, -Int.not_le, -Int.not_lt, -getElem?_pos, -List.getD_eq_getElem?_getD])
        · simp -implicitDefEqProofs -dsimp +contextual [-Bool.exists_bool, -Int.not_le, -Int.not_lt, -getElem?_pos, -List.getD_eq_getElem?_getD]
          exact RLe.pure 2 (by simp [-Bool.exists_bool, -Int.not_le, -Int.not_lt, -getElem?_pos, -List.getD_eq_getElem?_getD])
      · intro h
        have ht := tmod_lt (a := x) h
        refine ⟨y, x.tmod y, ⟨by omega, by omega, ?_⟩, ht, ?_⟩
        · rw [← he]
          unfold Int.gcd
          rw [Int.natAbs_tmod, Nat.gcd_comm y.natAbs, ← Nat.gcd_rec, Nat.gcd_comm]
        · refine Le.told [] ?_ ?_ ?_ <;> simp [-Bool.exists_bool, -Int.not_le, -Int.not_lt, -getElem?_pos, -List.getD_eq_getElem?_getD]
  · skip
    refine WP.loop mixed [] (fun p : Int × Int => ⟨tl [(0, I n), (1, I d), (4, .ptr (0, 0) 0), (5, I p.1), (6, I p.2)], hl [((0, 0), .box [I 0, I 0])], 1⟩) (fun p => (-1000000000000000000 ≤ p.1 ∧ p.1 ≤ 1000000000000000000) ∧ (-1000000000000000000 ≤ p.2 ∧ p.2 ≤ 1000000000000000000) ∧ Int.gcd p.1 p.2 = Int.gcd n d) (fun p => p.2.natAbs) (n, d) (by kernel_rfl) ?_ ?_ ?_
    · refine Le.told [] ?_ ?_ ?_ <;> simp [-Bool.exists_bool, -Int.not_le, -Int.not_lt, -getElem?_pos, -List.getD_eq_getElem?_getD, setH]
    · exact ⟨⟨by simp only; omega, by simp only; omega⟩, ⟨by simp only; omega, by simp only; omega⟩, by simp [-Bool.exists_bool, -Int.not_le, -Int.not_lt, -getElem?_pos, -List.getD_eq_getElem?_getD]⟩
    · rintro ⟨x, y⟩ ⟨hx, hy, he⟩
      simp only at hx hy he
      simp -implicitDefEqProofs -dsimp +contextual [-Bool.exists_bool, -Int.not_le, -Int.not_lt, -getElem?_pos, -List.getD_eq_getElem?_getD]
      refine ⟨?_, ?_⟩
      · rintro rfl
        refine CallJ.pure (l1Abs x (by omega) (by omega)) rfl (by simp [-Bool.exists_bool, -Int.not_le, -Int.not_lt, -getElem?_pos, -List.getD_eq_getElem?_getD]) ?_
        have ex : (x.natAbs : Int) = Int.gcd n d := by rw [← he]; simp [-Bool.exists_bool, -Int.not_le, -Int.not_lt, -getElem?_pos, -List.getD_eq_getElem?_getD]
        simp -implicitDefEqProofs -dsimp +contextual [-Bool.exists_bool, -Int.not_le, -Int.not_lt, -getElem?_pos, -List.getD_eq_getElem?_getD]
        rw [ex]
        refine ⟨fun hx0 => hg (by rw [← ex, hx0]; rfl), ?_⟩
        have b1 := tdiv_bd (g := Int.gcd n d) (x := n) ⟨by omega, by omega⟩
        have b2 := tdiv_bd (g := Int.gcd n d) (x := d) ⟨by omega, by omega⟩
        rw [wr (by have := b1.1; omega) (by have := b1.2; omega), wr (by have := b2.1; omega) (by have := b2.2; omega)]
        have em : mkR n d = if isRat (n.tdiv (Int.gcd n d)) (d.tdiv (Int.gcd n d)) = true then (n.tdiv (Int.gcd n d), d.tdiv (Int.gcd n d)) else (0, 0) := by rw [mkR, if_neg h0]; simp only [hneg, if_true, if_false, Int.neg_tdiv]
        rw [em]
        refine CallJ.pure (IsRatio _ _) rfl (by simp [-Bool.exists_bool, -Int.not_le, -Int.not_lt, -getElem?_pos, -List.getD_eq_getElem?_getD]) ?_
        generalize isRat (n.tdiv (Int.gcd n d)) (d.tdiv (Int.gcd n d)) = q
        cases q
        · simp -implicitDefEqProofs -dsimp +contextual [-Bool.exists_bool, -Int.not_le, -Int.not_lt, -getElem?_pos, -List.getD_eq_getElem?_getD]
          exact RLe.pure 2 (by simp [-Bool.exists_bool, -Int.not_le, -Int.not_lt, -getElem?_pos, -List.getD_eq_getElem?_getD])
        · simp -implicitDefEqProofs -dsimp +contextual [-Bool.exists_bool, -Int.not_le, -Int.not_lt, -getElem?_pos, -List.getD_eq_getElem?_getD]
          exact RLe.pure 2 (by simp [-Bool.exists_bool, -Int.not_le, -Int.not_lt, -getElem?_pos, -List.getD_eq_getElem?_getD])
      · intro h
        have ht := tmod_lt (a := x) h
        refine ⟨y, x.tmod y, ⟨by omega, by omega, ?_⟩, ht, ?_⟩
        · rw [← he]
          unfold Int.gcd
          rw [Int.natAbs_tmod, Nat.gcd_comm y.natAbs, ← Nat.gcd_rec, Nat.gcd_comm]
        · refine Le.told [] ?_ ?_ ?_ <;> simp [-Bool.exists_bool, -Int.not_le, -Int.not_lt, -getElem?_pos, -List.getD_eq_getElem?_getD]
theorem MakeRatio (n d : Int) (hn : isNum n = true) (hd : isNum d = true) : Cn Try.prog 33 [I n, I d] (Ra (mkR n d).1 (mkR n d).2) hemp := by
  refine Cn.of [] mixed Try.func33 rfl Try.call33 (by kernel_rfl) rfl ?_
  simp -implicitDefEqProofs -dsimp +contextual [-Bool.exists_bool, -Int.not_le, -Int.not_lt, -getElem?_pos, -List.getD_eq_getElem?_getD, Try.f33]
  refine CallJ.pure (IsNumber n) rfl (by simp [-Bool.exists_bool, -Int.not_le, -Int.not_lt, -getElem?_pos, -List.getD_eq_getElem?_getD]) ?_
  simp -implicitDefEqProofs -dsimp +contextual [-Bool.exists_bool, -Int.not_le, -Int.not_lt, -getElem?_pos, -List.getD_eq_getElem?_getD, hn]
  refine CallJ.pure (IsNumber d) rfl (by simp [-Bool.exists_bool, -Int.not_le, -Int.not_lt, -getElem?_pos, -List.getD_eq_getElem?_getD]) ?_
  simp -implicitDefEqProofs -dsimp +contextual [-Bool.exists_bool, -Int.not_le, -Int.not_lt, -getElem?_pos, -List.getD_eq_getElem?_getD, hn, hd]
  refine CallJ.pure (l2Make n d (by have := isNum_iff.1 hn; omega) (by have := isNum_iff.1 hd; omega)) rfl (by simp [-Bool.exists_bool, -Int.not_le, -Int.not_lt, -getElem?_pos, -List.getD_eq_getElem?_getD]) ?_
  simp -implicitDefEqProofs -dsimp +contextual [-Bool.exists_bool, -Int.not_le, -Int.not_lt, -getElem?_pos, -List.getD_eq_getElem?_getD, hn, hd]
  exact RLe.pure 2 (by simp [-Bool.exists_bool, -Int.not_le, -Int.not_lt, -getElem?_pos, -List.getD_eq_getElem?_getD])
theorem mkR_rat {n d : Int} (hn : isNum n = true) (hd : isNum d = true) (h0 : d ≠ 0) : isRat (mkR n d).1 (mkR n d).2 = true := by
  have hn := isNum_iff.1 hn
  have hd := isNum_iff.1 hd
  have hgp : 0 < Int.gcd n d := Nat.pos_of_ne_zero fun h => h0 (Int.gcd_eq_zero_iff.1 h).2
  have key : ∀ n' d' : Int, n'.natAbs = n.natAbs → d'.natAbs = d.natAbs → 0 < d' → isRat (n'.tdiv (Int.gcd n d)) (d'.tdiv (Int.gcd n d)) = true := fun n' d' h1 h2 h3 => by
    rw [isRat_iff]
    have e1 : (n'.tdiv (Int.gcd n d)).natAbs = n.natAbs / Int.gcd n d := by rw [Int.natAbs_tdiv, h1]; rfl
    have e2 : (d'.tdiv (Int.gcd n d)).natAbs = d.natAbs / Int.gcd n d := by rw [Int.natAbs_tdiv, h2]; rfl
    have l1 : n.natAbs / Int.gcd n d ≤ n.natAbs := Nat.div_le_self _ _
    have l2 : d.natAbs / Int.gcd n d ≤ d.natAbs := Nat.div_le_self _ _
    have hdv : Int.gcd n d ∣ d.natAbs := Nat.gcd_dvd_right _ _
    have l3 : 0 < d.natAbs / Int.gcd n d := Nat.div_pos (Nat.le_of_dvd (by omega) hdv) hgp
    have l4 : 0 ≤ d'.tdiv (Int.gcd n d) := Int.tdiv_nonneg (by omega) (by omega)
    refine ⟨by omega, by omega, ?_⟩
    unfold Int.gcd at e1 e2 hgp ⊢
    rw [e1, e2]
    rw [Nat.gcd_div (Nat.gcd_dvd_left _ _) (Nat.gcd_dvd_right _ _), Nat.div_self hgp]
  unfold mkR
  rw [if_neg h0]
  by_cases hneg : d < 0
  · have := key (-n) (-d) (by simp [-Bool.exists_bool, -Int.not_le, -Int.not_lt, -getElem?_pos, -List.getD_eq_getElem?_getD]) (by simp [-Bool.exists_bool, -Int.not_le, -Int.not_lt, -getElem?_pos, -List.getD_eq_getElem?_getD]) (by omega)
    simp only [hneg, if_true, this]
  · have := key n d rfl rfl (by omega)
    simp only [hneg, if_false, if_true, this]
theorem cross_eq {a b : Int × Int} (ha : isRat a.1 a.2 = true) (hb : isRat b.1 b.2 = true) (h : a.1 * b.2 = b.1 * a.2) : a = b := by
  have qa := isRat_iff.1 ha
  have qb := isRat_iff.1 hb
  have hn : a.1.natAbs * b.2.natAbs = b.1.natAbs * a.2.natAbs := by rw [← Int.natAbs_mul, h, Int.natAbs_mul]
  have c1 : Nat.Coprime a.2.natAbs a.1.natAbs := by have := qa.2.2; unfold Int.gcd at this; rw [Nat.Coprime, Nat.gcd_comm]; exact this
  have c2 : Nat.Coprime b.2.natAbs b.1.natAbs := by have := qb.2.2; unfold Int.gcd at this; rw [Nat.Coprime, Nat.gcd_comm]; exact this
  have d1 : a.2.natAbs ∣ b.2.natAbs := Nat.Coprime.dvd_of_dvd_mul_left c1 (hn ▸ Nat.dvd_mul_left _ _)
  have d2 : b.2.natAbs ∣ a.2.natAbs := Nat.Coprime.dvd_of_dvd_mul_left c2 (hn ▸ Nat.dvd_mul_left _ _)
  have e := Nat.dvd_antisymm d1 d2
  have e2 : a.2 = b.2 := by omega
  have e1 : a.1 = b.1 := by
    rw [e2] at h
    exact Int.eq_of_mul_eq_mul_right (by omega) h
  exact Prod.ext e1 e2
end Go.Proofs.Ytjknjekemolndaa.ZL
namespace Go.Proofs.Ytjknjekemolndaa.ZL
open Go Go.Proofs.Ytjknjekemolndaa.Abs Go.Proofs.Ytjknjekemolndaa.Abs.Pl Go.RowKit Go.Proofs
set_option linter.unusedVariables false
set_option linter.unusedSimpArgs false
structure Bd where
  hl : Bool
  lo : Int × Int
  lop : Bool
  hh : Bool
  hi : Int × Int
  hop : Bool
  em : Bool
def bd0 : Bd := ⟨false, (0, 0), false, false, (0, 0), false, false⟩
abbrev bdL (b : Bd) : List V := [B b.hl, I b.lo.1, I b.lo.2, B b.lop, B b.hh, I b.hi.1, I b.hi.2, B b.hop, B b.em]
abbrev bdV (b : Bd) : V := .agg (bdL b)
def ltR (a b : Int × Int) : Bool := decide (a.1 * b.2 < b.1 * a.2)
def narrow (v : Nat) (b : Bd) (a : At) : Bd :=
  if nth a.1 v = 0 then b else
  if 0 < nth a.1 v then (if b.hh = false ∨ cmpR (mkR (-a.2.1) (nth a.1 v)) b.hi < 0 ∨ (cmpR (mkR (-a.2.1) (nth a.1 v)) b.hi = 0 ∧ a.2.2 = true) then { b with hh := true, hi := mkR (-a.2.1) (nth a.1 v), hop := a.2.2 } else b)
  else (if b.hl = false ∨ 0 < cmpR (mkR (-a.2.1) (nth a.1 v)) b.lo ∨ (cmpR (mkR (-a.2.1) (nth a.1 v)) b.lo = 0 ∧ a.2.2 = true) then { b with hl := true, lo := mkR (-a.2.1) (nth a.1 v), lop := a.2.2 } else b)
def narrows (v : Nat) : Bd → List At → Bd
  | b, [] => b
  | b, a :: L => narrows v (narrow v b a) L
theorem iBoundsIn (d : Int) (L : List At) (v : Nat) (hv : (v : Int) < d) (h16 : L.length ≤ 16) (hok : allOk d L) : Cn Try.prog 21 [C1 d L, I v] (bdV (narrows v bd0 L)) hemp := by
  refine Cn.of [0] mixed Try.func21 rfl Try.call21 (by kernel_rfl) rfl ?_
  simp -implicitDefEqProofs -dsimp +contextual [-Bool.exists_bool, -Int.not_le, -Int.not_lt, -getElem?_pos, -List.getD_eq_getElem?_getD, Try.f21]
  refine WP.loop mixed [0] (fun p : Nat × Bd => ⟨tl [(1, I v), (4, .ptr (1, 0) 0), (5, .ptr (2, 0) 0), (14, As L), (15, I L.length), (16, I p.1)], hl [((1, 0), .box (bdL bd0)), ((2, 0), .box (bdL p.2))], 3⟩)
    (fun p => p.1 ≤ L.length ∧ narrows v bd0 L = narrows v p.2 (L.drop p.1)) (fun p => L.length - p.1) (0, bd0) (by kernel_rfl) ?_ ?_ ?_
  · refine Le.told [((2, 0), (3, 0))] ?_ ?_ ?_ <;> simp [-Bool.exists_bool, -Int.not_le, -Int.not_lt, -getElem?_pos, -List.getD_eq_getElem?_getD, setH, bd0]
  · exact ⟨Nat.zero_le _, rfl⟩
  · rintro ⟨i, b⟩ ⟨hi, he⟩
    simp only at hi he
    by_cases h : i < L.length
    · have ho := hok _ (nth_mem h)
      have hvl : v < (nth L i).1.length := by have := ho.2; omega
      have hnu := okA_num ho
      have hx := isNum_iff.1 (hnu.1 _ (nth_mem hvl))
      have hc := isNum_iff.1 hnu.2.1
      rw [nth_drop h, narrows] at he
      simp -implicitDefEqProofs -dsimp +contextual [-Bool.exists_bool, -Int.not_le, -Int.not_lt, -getElem?_pos, -List.getD_eq_getElem?_getD, h, hvl]
      refine ⟨fun h0 => ?_, fun h0 => ?_⟩
      · refine ⟨i + 1, b, ⟨h, by rw [he, narrow, if_pos h0]⟩, by omega, ?_⟩
        rw [wr (by omega) (by omega)]
        refine Le.told [] ?_ ?_ ?_ <;> simp [-Bool.exists_bool, -Int.not_le, -Int.not_lt, -getElem?_pos, -List.getD_eq_getElem?_getD]
      · rw [wr (by omega) (by omega)]
        refine CallJ.pure (iReduced (-(nth L i).2.1) (nth (nth L i).1 v) ⟨by omega, by omega⟩ ⟨by omega, by omega⟩) rfl (by simp [-Bool.exists_bool, -Int.not_le, -Int.not_lt, -getElem?_pos, -List.getD_eq_getElem?_getD]) ?_
        rw [narrow, if_neg h0] at he
        generalize mkR (-(nth L i).2.1) (nth (nth L i).1 v) = r at he ⊢
        simp -implicitDefEqProofs -dsimp +contextual [-Bool.exists_bool, -Int.not_le, -Int.not_lt, -getElem?_pos, -List.getD_eq_getElem?_getD, h, hvl, h0]
        refine ⟨fun hp => ?_, fun hp => ?_⟩
        · rw [if_pos hp] at he
          refine CallJ.pure (iCompareRatios r b.hi) rfl (by simp [-Bool.exists_bool, -Int.not_le, -Int.not_lt, -getElem?_pos, -List.getD_eq_getElem?_getD]) ?_
          simp -implicitDefEqProofs -dsimp +contextual [-Bool.exists_bool, -Int.not_le, -Int.not_lt, -getElem?_pos, -List.getD_eq_getElem?_getD, h, hvl, h0]
          refine ⟨fun c1 => ⟨fun c2 => ?_, fun c2 => ⟨fun c3 => ⟨fun c4 => ?_, fun c4 => ?_⟩, fun c3 => ?_⟩⟩, fun c1 => ?_⟩
          · refine ⟨Quiet.of [9, 7] (by kernel_rfl) (by simp [-Bool.exists_bool, -Int.not_le, -Int.not_lt, -getElem?_pos, -List.getD_eq_getElem?_getD, allP, offB]), Quiet.of [7] (by kernel_rfl) (by simp [-Bool.exists_bool, -Int.not_le, -Int.not_lt, -getElem?_pos, -List.getD_eq_getElem?_getD, allP, offB]), Quiet.of [] (by kernel_rfl) (by simp [-Bool.exists_bool, -Int.not_le, -Int.not_lt, -getElem?_pos, -List.getD_eq_getElem?_getD, allP, offB]), i + 1, { b with hh := true, hi := r, hop := (nth L i).2.2 }, ⟨h, by rw [he, if_pos (.inr (.inl c2))]⟩, by omega, ?_⟩
            rw [wr (by omega) (by omega)]
            refine Le.told [] ?_ ?_ ?_ <;> simp [-Bool.exists_bool, -Int.not_le, -Int.not_lt, -getElem?_pos, -List.getD_eq_getElem?_getD]
          · refine ⟨Quiet.of [9, 7] (by kernel_rfl) (by simp [-Bool.exists_bool, -Int.not_le, -Int.not_lt, -getElem?_pos, -List.getD_eq_getElem?_getD, allP, offB]), Quiet.of [7] (by kernel_rfl) (by simp [-Bool.exists_bool, -Int.not_le, -Int.not_lt, -getElem?_pos, -List.getD_eq_getElem?_getD, allP, offB]), Quiet.of [] (by kernel_rfl) (by simp [-Bool.exists_bool, -Int.not_le, -Int.not_lt, -getElem?_pos, -List.getD_eq_getElem?_getD, allP, offB]), i + 1, { b with hh := true, hi := r, hop := (nth L i).2.2 }, ⟨h, by rw [he, if_pos (.inr (.inr ⟨c3, c4⟩))]⟩, by omega, ?_⟩
            rw [wr (by omega) (by omega)]
            refine Le.told [] ?_ ?_ ?_ <;> simp [-Bool.exists_bool, -Int.not_le, -Int.not_lt, -getElem?_pos, -List.getD_eq_getElem?_getD, c4]
          · refine ⟨i + 1, b, ⟨h, by rw [he, if_neg (by simp [-Bool.exists_bool, -Int.not_le, -Int.not_lt, -getElem?_pos, -List.getD_eq_getElem?_getD, c1, c3, c4])]⟩, by omega, ?_⟩
            rw [wr (by omega) (by omega)]
            refine Le.told [] ?_ ?_ ?_ <;> simp [-Bool.exists_bool, -Int.not_le, -Int.not_lt, -getElem?_pos, -List.getD_eq_getElem?_getD]
          · refine ⟨i + 1, b, ⟨h, by rw [he, if_neg (by simp only [c1, Bool.true_eq_false, false_or, not_or]; exact ⟨c2, fun h => c3 h.1⟩)]⟩, by omega, ?_⟩
            rw [wr (by omega) (by omega)]
            refine Le.told [] ?_ ?_ ?_ <;> simp [-Bool.exists_bool, -Int.not_le, -Int.not_lt, -getElem?_pos, -List.getD_eq_getElem?_getD]
          · refine ⟨Quiet.of [9, 7] (by kernel_rfl) (by simp [-Bool.exists_bool, -Int.not_le, -Int.not_lt, -getElem?_pos, -List.getD_eq_getElem?_getD, allP, offB]), Quiet.of [7] (by kernel_rfl) (by simp [-Bool.exists_bool, -Int.not_le, -Int.not_lt, -getElem?_pos, -List.getD_eq_getElem?_getD, allP, offB]), Quiet.of [] (by kernel_rfl) (by simp [-Bool.exists_bool, -Int.not_le, -Int.not_lt, -getElem?_pos, -List.getD_eq_getElem?_getD, allP, offB]), i + 1, { b with hh := true, hi := r, hop := (nth L i).2.2 }, ⟨h, by rw [he, if_pos (.inl c1)]⟩, by omega, ?_⟩
            rw [wr (by omega) (by omega)]
            refine Le.told [] ?_ ?_ ?_ <;> simp [-Bool.exists_bool, -Int.not_le, -Int.not_lt, -getElem?_pos, -List.getD_eq_getElem?_getD]
        · rw [if_neg hp] at he
          refine CallJ.pure (iCompareRatios r b.lo) rfl (by simp [-Bool.exists_bool, -Int.not_le, -Int.not_lt, -getElem?_pos, -List.getD_eq_getElem?_getD]) ?_
          simp -implicitDefEqProofs -dsimp +contextual [-Bool.exists_bool, -Int.not_le, -Int.not_lt, -getElem?_pos, -List.getD_eq_getElem?_getD, h, hvl, h0]
          refine ⟨fun c1 => ⟨fun c2 => ?_, fun c2 => ⟨fun c3 => ⟨fun c4 => ?_, fun c4 => ?_⟩, fun c3 => ?_⟩⟩, fun c1 => ?_⟩
          · refine ⟨Quiet.of [9, 7] (by kernel_rfl) (by simp [-Bool.exists_bool, -Int.not_le, -Int.not_lt, -getElem?_pos, -List.getD_eq_getElem?_getD, allP, offB]), Quiet.of [7] (by kernel_rfl) (by simp [-Bool.exists_bool, -Int.not_le, -Int.not_lt, -getElem?_pos, -List.getD_eq_getElem?_getD, allP, offB]), Quiet.of [] (by kernel_rfl) (by simp [-Bool.exists_bool, -Int.not_le, -Int.not_lt, -getElem?_pos, -List.getD_eq_getElem?_getD, allP, offB]), i + 1, { b with hl := true, lo := r, lop := (nth L i).2.2 }, ⟨h, by rw [he, if_pos (.inr (.inl c2))]⟩, by omega, ?_⟩
            rw [wr (by omega) (by omega)]
            refine Le.told [] ?_ ?_ ?_ <;> simp [-Bool.exists_bool, -Int.not_le, -Int.not_lt, -getElem?_pos, -List.getD_eq_getElem?_getD]
          · refine ⟨Quiet.of [9, 7] (by kernel_rfl) (by simp [-Bool.exists_bool, -Int.not_le, -Int.not_lt, -getElem?_pos, -List.getD_eq_getElem?_getD, allP, offB]), Quiet.of [7] (by kernel_rfl) (by simp [-Bool.exists_bool, -Int.not_le, -Int.not_lt, -getElem?_pos, -List.getD_eq_getElem?_getD, allP, offB]), Quiet.of [] (by kernel_rfl) (by simp [-Bool.exists_bool, -Int.not_le, -Int.not_lt, -getElem?_pos, -List.getD_eq_getElem?_getD, allP, offB]), i + 1, { b with hl := true, lo := r, lop := (nth L i).2.2 }, ⟨h, by rw [he, if_pos (.inr (.inr ⟨c3, c4⟩))]⟩, by omega, ?_⟩
            rw [wr (by omega) (by omega)]
            refine Le.told [] ?_ ?_ ?_ <;> simp [-Bool.exists_bool, -Int.not_le, -Int.not_lt, -getElem?_pos, -List.getD_eq_getElem?_getD, c4]
          · refine ⟨i + 1, b, ⟨h, by rw [he, if_neg (by simp [-Bool.exists_bool, -Int.not_le, -Int.not_lt, -getElem?_pos, -List.getD_eq_getElem?_getD, c1, c3, c4])]⟩, by omega, ?_⟩
            rw [wr (by omega) (by omega)]
            refine Le.told [] ?_ ?_ ?_ <;> simp [-Bool.exists_bool, -Int.not_le, -Int.not_lt, -getElem?_pos, -List.getD_eq_getElem?_getD]
          · refine ⟨i + 1, b, ⟨h, by rw [he, if_neg (by simp only [c1, Bool.true_eq_false, false_or, not_or]; exact ⟨c2, fun h => c3 h.1⟩)]⟩, by omega, ?_⟩
            rw [wr (by omega) (by omega)]
            refine Le.told [] ?_ ?_ ?_ <;> simp [-Bool.exists_bool, -Int.not_le, -Int.not_lt, -getElem?_pos, -List.getD_eq_getElem?_getD]
          · refine ⟨Quiet.of [9, 7] (by kernel_rfl) (by simp [-Bool.exists_bool, -Int.not_le, -Int.not_lt, -getElem?_pos, -List.getD_eq_getElem?_getD, allP, offB]), Quiet.of [7] (by kernel_rfl) (by simp [-Bool.exists_bool, -Int.not_le, -Int.not_lt, -getElem?_pos, -List.getD_eq_getElem?_getD, allP, offB]), Quiet.of [] (by kernel_rfl) (by simp [-Bool.exists_bool, -Int.not_le, -Int.not_lt, -getElem?_pos, -List.getD_eq_getElem?_getD, allP, offB]), i + 1, { b with hl := true, lo := r, lop := (nth L i).2.2 }, ⟨h, by rw [he, if_pos (.inl c1)]⟩, by omega, ?_⟩
            rw [wr (by omega) (by omega)]
            refine Le.told [] ?_ ?_ ?_ <;> simp [-Bool.exists_bool, -Int.not_le, -Int.not_lt, -getElem?_pos, -List.getD_eq_getElem?_getD]
    · rw [drop_nil (by omega)] at he
      simp -implicitDefEqProofs -dsimp +contextual [-Bool.exists_bool, -Int.not_le, -Int.not_lt, -getElem?_pos, -List.getD_eq_getElem?_getD, h]
      rw [he]
      exact RLe.pure 2 (by simp [-Bool.exists_bool, -Int.not_le, -Int.not_lt, -getElem?_pos, -List.getD_eq_getElem?_getD, narrows])
end Go.Proofs.Ytjknjekemolndaa.ZL
namespace Go.Proofs.Ytjknjekemolndaa.ZL
open Go Go.Proofs.Ytjknjekemolndaa.Abs Go.Proofs.Ytjknjekemolndaa.Abs.Pl Go.RowKit Go.Proofs
set_option linter.unusedVariables false
set_option linter.unusedSimpArgs false
def emF (L : List At) : Bool := decide (L.length = 1) && (!hasV (nth L 0) && (decide ((nth L 0).2.1 = 1) && !(nth L 0).2.2))
def dropsGo (d : Int) (v : Nat) : Nat → List At → Option (List At)
  | 0, x => some x
  | k + 1, x => if k = v then dropsGo d v k x else if (dropC d k x).2.2 = true then dropsGo d v k (dropC d k x).2.1 else none
def bdE : Bd := ⟨false, (0, 0), false, false, (0, 0), false, true⟩
def endB (b : Bd) : Bd := if b.hl = true ∧ b.hh = true ∧ (0 < cmpR b.lo b.hi ∨ (cmpR b.lo b.hi = 0 ∧ (b.lop = true ∨ b.hop = true))) then bdE else b
def bndsI (v : Nat) (x : List At) : Bd := if emF x = true then bdE else endB (narrows v bd0 x)
def bndD (d : Int) (L : List At) (v : Int) : Bd × Bool := if isCe d L = true ∧ 0 ≤ v ∧ v < d then (match dropsGo d v.toNat d.toNat (nrm d L) with
    | some x => (bndsI v.toNat x, true)
    | none => (bd0, false)) else (bd0, false)
theorem dropsGo_ok {d : Int} (hd : 0 ≤ d ∧ d ≤ 4) (v : Nat) : ∀ (k : Nat) {x y : List At}, x.length ≤ 16 → allOk d x → dropsGo d v k x = some y → y.length ≤ 16 ∧ allOk d y
  | 0, x, y, h16, hx, h => by obtain rfl := Option.some.inj h; exact ⟨h16, hx⟩
  | k + 1, x, y, h16, hx, h => by
    unfold dropsGo at h
    split at h
    · exact dropsGo_ok hd v k h16 hx h
    · split at h
      · rename_i hr
        have := dropC_ok hd k h16 hx hr
        exact dropsGo_ok hd v k this.2.1 this.2.2 h
      · exact absurd h (by simp [-Bool.exists_bool, -Int.not_le, -Int.not_lt, -getElem?_pos, -List.getD_eq_getElem?_getD])
end Go.Proofs.Ytjknjekemolndaa.ZL
namespace Go.Proofs.Ytjknjekemolndaa.ZL
open Go Go.Proofs.Ytjknjekemolndaa.Abs Go.Proofs.Ytjknjekemolndaa.Abs.Pl Go.RowKit Go.Proofs
set_option linter.unusedVariables false
set_option linter.unusedSimpArgs false
theorem eq42 : eq2B Try.prog 49 .i64 = true := by kernel_rfl
def okB (b : Bd) : Prop := (b.hh = true → isRat b.hi.1 b.hi.2 = true) ∧ (b.hl = true → isRat b.lo.1 b.lo.2 = true)
theorem cmp_gt {a b : Int × Int} (ha : isRat a.1 a.2 = true) (hb : isRat b.1 b.2 = true) : 0 < cmpR a b ↔ b.1 * a.2 < a.1 * b.2 := by
  rw [cmpR, if_pos ⟨ha, hb⟩]; split
  · constructor <;> intro h <;> omega
  · split <;> constructor <;> intro h <;> omega
theorem cmp_lt {a b : Int × Int} (ha : isRat a.1 a.2 = true) (hb : isRat b.1 b.2 = true) : cmpR a b < 0 ↔ a.1 * b.2 < b.1 * a.2 := by
  rw [cmpR, if_pos ⟨ha, hb⟩]; split
  · constructor <;> intro h <;> omega
  · split <;> constructor <;> intro h <;> omega
theorem cmp_eq {a b : Int × Int} (ha : isRat a.1 a.2 = true) (hb : isRat b.1 b.2 = true) : cmpR a b = 0 ↔ (a.1 = b.1 ∧ a.2 = b.2) := by
  rw [cmpR, if_pos ⟨ha, hb⟩]; split
  · rename_i h
    constructor
    · intro h'; omega
    · rintro ⟨h1, h2⟩; rw [h1, h2] at h; omega
  · rename_i h
    split
    · rename_i h'
      constructor
      · intro h'; omega
      · rintro ⟨h1, h2⟩; rw [h1, h2] at h'; omega
    · rename_i h'
      refine ⟨fun _ => ?_, fun _ => rfl⟩
      have := cross_eq ha hb (by omega)
      rw [this]; exact ⟨rfl, rfl⟩
theorem narrow_ok {d : Int} {b : Bd} {a : At} {v : Nat} (ho : okA d a) (hv : (v : Int) < d) (hb : okB b) : okB (narrow v b a) := by
  have hvl : v < a.1.length := by have := ho.2; omega
  have hnu := okA_num ho
  have hx := hnu.1 _ (nth_mem hvl)
  have hc := isNum_iff.1 hnu.2.1
  have hcn : isNum (-a.2.1) = true := isNum_iff.2 ⟨by omega, by omega⟩
  unfold narrow
  split
  · exact hb
  · rename_i h0
    have hr := mkR_rat hcn hx h0
    split
    · split
      · exact ⟨fun _ => hr, hb.2⟩
      · exact hb
    · split
      · exact ⟨hb.1, fun _ => hr⟩
      · exact hb
def bndsS (v : Nat) : Bd → List At → Bd
  | b, [] => endB b
  | b, a :: L => if gcdL a.1 = 0 then (if truA a = true then bndsS v b L else bdE) else bndsS v (narrow v b a) L
end Go.Proofs.Ytjknjekemolndaa.ZL
namespace Go.Proofs.Ytjknjekemolndaa.ZL
open Go Go.Proofs.Ytjknjekemolndaa.Abs Go.Proofs.Ytjknjekemolndaa.Abs.Pl Go.RowKit Go.Proofs
set_option linter.unusedVariables false
set_option linter.unusedSimpArgs false
def at1 (x : At2) : At := (x.1, x.2.1, x.2.2.1)
def fixGo (v n e : Int) : List At → List At → Option (List At)
  | [], acc => some acc
  | a :: L, acc => if (fixA a v n e).2.2.2 = true then fixGo v n e L (acc ++ [at1 (fixA a v n e)]) else none
def sliceD (d : Int) (L : List At) (v n e : Int) : Int × List At × Bool := if isCe d L = true ∧ (0 ≤ v ∧ v < d) ∧ isRat n e = true then (match fixGo v n e L [] with
    | some M => (d, nrm d M, true)
    | none => (0, [], false)) else (0, [], false)
theorem sliceD_f {d : Int} {L : List At} {v n e : Int} (h : ¬ (sliceD d L v n e).2.2 = true) : sliceD d L v n e = (0, [], false) := by
  unfold sliceD at h ⊢
  split
  · rename_i h2
    rw [if_pos h2] at h
    split
    · rename_i M hM; rw [hM] at h; exact absurd rfl h
    · rfl
  · rfl
theorem fixA_ok {d : Int} {a : At} {v n e : Int} (ha : okA d a) (h : (fixA a v n e).2.2.2 = true) : okA d (at1 (fixA a v n e)) := by
  unfold fixA at h ⊢
  split at h
  · rename_i hc
    rw [if_pos hc]
    unfold mkAt at h ⊢
    simp only at h ⊢
    split at h
    · rename_i h2
      rw [if_pos h2]
      refine ⟨h2, ?_⟩
      simp only [at1, List.length_map, fixI_len]
      exact ha.2
    · simp [-Bool.exists_bool, -Int.not_le, -Int.not_lt, -getElem?_pos, -List.getD_eq_getElem?_getD, noAt] at h
  · simp [-Bool.exists_bool, -Int.not_le, -Int.not_lt, -getElem?_pos, -List.getD_eq_getElem?_getD, noAt] at h
theorem fixGo_ok {d v n e : Int} : ∀ {L acc M : List At}, allOk d L → allOk d acc → fixGo v n e L acc = some M → allOk d M ∧ M.length = acc.length + L.length
  | [], acc, M, _, h2, h => by obtain rfl := Option.some.inj h; exact ⟨h2, by simp [-Bool.exists_bool, -Int.not_le, -Int.not_lt, -getElem?_pos, -List.getD_eq_getElem?_getD]⟩
  | a :: L, acc, M, h1, h2, h => by
    unfold fixGo at h
    split at h
    · rename_i hok
      have := fixGo_ok (L := L) (fun x hx => h1 x (List.mem_cons_of_mem _ hx)) (fun x hx => by
        rcases List.mem_append.1 hx with hx | hx
        · exact h2 x hx
        · rw [List.mem_singleton.1 hx]; exact fixA_ok (h1 a List.mem_cons_self) hok) h
      exact ⟨this.1, by rw [this.2]; simp [-Bool.exists_bool, -Int.not_le, -Int.not_lt, -getElem?_pos, -List.getD_eq_getElem?_getD]; omega⟩
    · exact absurd h (by simp [-Bool.exists_bool, -Int.not_le, -Int.not_lt, -getElem?_pos, -List.getD_eq_getElem?_getD])
theorem sliceD_small (d : Int) (L : List At) (v n e : Int) : Small (sliceD d L v n e).2.1 := by
  unfold sliceD
  split
  · rename_i h
    split
    · rename_i M hM
      have := fixGo_ok (isCe_a h.1) (acc := []) (fun x hx => by simp [-Bool.exists_bool, -Int.not_le, -Int.not_lt, -getElem?_pos, -List.getD_eq_getElem?_getD] at hx) hM
      exact Small.ok (nrm_16 d M (by rw [this.2]; simpa [-Bool.exists_bool, -Int.not_le, -Int.not_lt, -getElem?_pos, -List.getD_eq_getElem?_getD] using isCe_l h.1)) (nrm_okL (isCe_d h.1) this.1)
    · exact Small.nil
  · exact Small.nil
theorem lends1ir {H : Store} {s1 : Nat} {c1 : Ce} {v n e : Int} (h1 : Owns H s1 c1.2) : lendVs true H 2 [.agg [I c1.1, .ref (s1, 0) c1.2.length], I v, Ra n e] = some ([.agg (cV c1), I v, Ra n e], famK s1 0 c1.2.length) := by
  simp only [lendVs, h1.lend 0 c1.1]; simp [-Bool.exists_bool, -Int.not_le, -Int.not_lt, -getElem?_pos, -List.getD_eq_getElem?_getD, lendV]
end Go.Proofs.Ytjknjekemolndaa.ZL
set_option linter.unusedVariables false
namespace Go.Proofs.Ytjknjekemolndaa.Abs.Pl
open Go
theorem castQ_ne {d : Int} (h : ¬ d = 0) : (d : Rat) ≠ 0 := by simpa using h
theorem castQ_pos {d : Int} (h : 0 < d) : (0 : Rat) < (d : Rat) := by exact_mod_cast h
theorem castQ_neg {d : Int} (h : d < 0) : (d : Rat) < 0 := by exact_mod_cast h
theorem mulQ_neg {k y : Rat} (hk : 0 < k) : k * y < 0 ↔ y < 0 := by
  constructor
  · intro hn
    by_cases h2 : y < 0
    · exact h2
    · have := Rat.mul_nonneg (Rat.le_of_lt hk) (Rat.not_lt.1 h2); grind
  · intro hn
    have := Rat.mul_pos hk (show 0 < -y by grind); grind
theorem mulQ_zero {k y : Rat} (hk : 0 < k) : k * y = 0 ↔ y = 0 := by
  constructor
  · intro hn
    rcases Rat.mul_eq_zero.1 hn with h2 | h2
    · rw [h2] at hk; exact absurd hk (by decide)
    · exact h2
  · intro hn; rw [hn]; simp
def dt (x : Nat → Rat) : Nat → List Int → Rat
  | _, [] => 0
  | k, n :: l => (n : Rat) * x k + dt x (k + 1) l
def evA (x : Nat → Rat) (a : At) : Rat := (a.2.1 : Rat) + dt x 0 a.1
def Sat (x : Nat → Rat) (a : At) : Prop := evA x a < 0 ∨ evA x a = 0 ∧ a.2.2 = false
def SatL (x : Nat → Rat) (L : List At) : Prop := ∀ a ∈ L, Sat x a
def upd (x : Nat → Rat) (v : Nat) (t : Rat) : Nat → Rat := fun k => if k = v then t else x k
theorem upd_self (x : Nat → Rat) (v : Nat) : upd x v (x v) = x := by funext k; unfold upd; split <;> simp_all
theorem upd_upd (x : Nat → Rat) (v : Nat) (s t : Rat) : upd (upd x v s) v t = upd x v t := by funext k; unfold upd; split <;> simp_all
theorem upd_at (x : Nat → Rat) (v : Nat) (t : Rat) : upd x v t v = t := by simp [upd]
theorem dt_congr {x y : Nat → Rat} : ∀ (l : List Int) (k : Nat), (∀ i, i < l.length → l.getD i 0 = 0 ∨ x (k + i) = y (k + i)) → dt x k l = dt y k l
  | [], _, _ => rfl
  | n :: l, k, h => by
    have h0 := h 0 (by simp)
    have ih := dt_congr (x := x) (y := y) l (k + 1) fun i hi => by
      have := h (i + 1) (by simp; omega)
      rw [List.getD_cons_succ] at this
      rw [Nat.add_assoc, Nat.add_comm 1 i]; exact this
    unfold dt
    rw [ih]
    rw [List.getD_cons_zero] at h0
    rcases h0 with h0 | h0
    · rw [h0]; simp
    · rw [Nat.add_zero] at h0; rw [h0]
theorem dt_upd {x : Nat → Rat} (v : Nat) (t : Rat) : ∀ (l : List Int) (k : Nat), dt (upd x (k + v) t) k l = dt x k l + ((l.getD v 0 : Int) : Rat) * (t - x (k + v))
  | [], k => by simp [dt, Rat.add_zero]
  | n :: l, k => by
    cases v with
    | zero =>
      have e : dt (upd x (k + 0) t) (k + 1) l = dt x (k + 1) l := dt_congr l (k + 1) fun i hi => .inr (by unfold upd; rw [if_neg (by omega)])
      unfold dt
      rw [e]
      simp only [List.getD_cons_zero, Nat.add_zero, upd_at]
      grind
    | succ v =>
      have ih := dt_upd v t l (k + 1) (x := x)
      have e : k + 1 + v = k + (v + 1) := by omega
      rw [e] at ih
      unfold dt
      rw [ih]
      have e2 : upd x (k + (v + 1)) t k = x k := by unfold upd; rw [if_neg (by omega)]
      rw [e2, List.getD_cons_succ]
      grind
theorem dt_mul (x : Nat → Rat) (g : Int) : ∀ (l : List Int) (k : Nat), dt x k (l.map (· * g)) = (g : Rat) * dt x k l
  | [], k => by simp [dt]
  | n :: l, k => by
    simp only [List.map_cons, dt, dt_mul x g l, Rat.intCast_mul]
    grind
theorem dt_neg (x : Nat → Rat) : ∀ (l : List Int) (k : Nat), dt x k (l.map (- ·)) = - dt x k l
  | [], k => by simp [dt]
  | n :: l, k => by
    simp only [List.map_cons, dt, dt_neg x l, Rat.intCast_neg]
    grind
theorem dt_mix (x : Nat → Rat) (p q : Int) : ∀ (l m : List Int) (k : Nat), l.length = m.length → dt x k (mixL p l q m) = (p : Rat) * dt x k l + (q : Rat) * dt x k m
  | [], [], k, _ => by simp [dt, mixL, Rat.add_zero]
  | a :: l, b :: m, k, h => by
    have := dt_mix x p q l m (k + 1) (by simpa using h)
    unfold mixL at this ⊢
    simp only [List.zipWith_cons_cons, dt, this, Rat.intCast_add, Rat.intCast_mul]
    grind
  | [], _ :: _, _, h => by simp at h
  | _ :: _, [], _, h => by simp at h
theorem dt_zero (x : Nat → Rat) : ∀ (l : List Int) (k : Nat), (∀ n ∈ l, n = 0) → dt x k l = 0
  | [], k, _ => rfl
  | n :: l, k, h => by
    unfold dt
    rw [h n (by simp), dt_zero x l (k + 1) fun m hm => h m (by simp [hm])]
    simp [Rat.add_zero]
theorem evA_upd (x : Nat → Rat) (v : Nat) (t : Rat) (a : At) : evA (upd x v t) a = evA x a + ((a.1.getD v 0 : Int) : Rat) * (t - x v) := by
  have := dt_upd (x := x) v t a.1 0
  rw [Nat.zero_add] at this
  unfold evA
  rw [this]; grind
theorem Sat_scale {x : Nat → Rat} {a b : At} {k : Rat} (hk : 0 < k) (h : evA x a = k * evA x b) (hs : a.2.2 = b.2.2) : Sat x a ↔ Sat x b := by
  unfold Sat
  rw [h, mulQ_neg hk, mulQ_zero hk, hs]
theorem gcdM_dvd {l : List Int} {c : Int} : (∀ x ∈ l, div1 (Nat.gcd (gcdL l) c.natAbs) ∣ x) ∧ div1 (Nat.gcd (gcdL l) c.natAbs) ∣ c := by
  unfold div1
  split
  · exact ⟨fun x _ => Int.one_dvd _, Int.one_dvd _⟩
  · exact ⟨fun x hx => Int.ofNat_dvd_left.2 (Nat.dvd_trans (Nat.gcd_dvd_left _ _) (gcdL_dvd l x hx)), Int.ofNat_dvd_left.2 (Nat.gcd_dvd_right _ _)⟩
theorem map_tdivM {l : List Int} {g : Int} (h : ∀ x ∈ l, g ∣ x) : (l.map (·.tdiv g)).map (· * g) = l := by
  rw [List.map_map]
  conv => rhs; rw [← List.map_id l]
  exact List.map_congr_left (fun x hx => Int.tdiv_mul_cancel (h x hx))
theorem mkAt_sat {l : List Int} {c : Int} {s : Bool} (h : (mkAt l c s).2.2.2 = true) (x : Nat → Rat) : Sat x ((mkAt l c s).1, (mkAt l c s).2.1, (mkAt l c s).2.2.1) ↔ Sat x (l, c, s) := by
  unfold mkAt at h ⊢
  simp only [] at h ⊢
  split at h
  · rename_i hi
    rw [if_pos hi]
    have hg := div1_pos (Nat.gcd (gcdL l) c.natAbs)
    have hd := gcdM_dvd (l := l) (c := c)
    refine (Sat_scale (a := (l, c, s)) (b := (l.map (·.tdiv (div1 (Nat.gcd (gcdL l) c.natAbs))), c.tdiv (div1 (Nat.gcd (gcdL l) c.natAbs)), s)) (castQ_pos hg) ?_ rfl).symm
    unfold evA
    have e1 : dt x 0 l = (div1 (Nat.gcd (gcdL l) c.natAbs) : Rat) * dt x 0 (l.map (·.tdiv (div1 (Nat.gcd (gcdL l) c.natAbs)))) := by
      rw [← dt_mul, map_tdivM hd.1]
    have e2 : (c : Rat) = (div1 (Nat.gcd (gcdL l) c.natAbs) : Rat) * ((c.tdiv (div1 (Nat.gcd (gcdL l) c.natAbs)) : Int) : Rat) := by
      rw [← Rat.intCast_mul]
      exact_mod_cast congrArg (fun x : Int => (x : Rat)) (Int.mul_tdiv_cancel' hd.2).symm
    show (c : Rat) + dt x 0 l = _ * (((c.tdiv (div1 (Nat.gcd (gcdL l) c.natAbs)) : Int) : Rat) + dt x 0 (l.map (·.tdiv (div1 (Nat.gcd (gcdL l) c.natAbs)))))
    rw [Rat.mul_add, ← e1, ← e2]
  · simp [noAt] at h
abbrev aOf (m : At2) : At := (m.1, m.2.1, m.2.2.1)
theorem mixAt_sat {a b : At} {p q : Int} (hp : 0 < p) (hq : 0 < q) (h : (mixAt a.1 a.2.1 a.2.2 p b.1 b.2.1 b.2.2 q).2.2.2 = true) (x : Nat → Rat) :
    Sat x (aOf (mixAt a.1 a.2.1 a.2.2 p b.1 b.2.1 b.2.2 q)) ↔ ((p : Rat) * evA x a + (q : Rat) * evA x b < 0 ∨ (p : Rat) * evA x a + (q : Rat) * evA x b = 0 ∧ a.2.2 = false ∧ b.2.2 = false) := by
  unfold mixAt at h ⊢
  split at h
  · rename_i hi
    rw [if_pos hi]
    unfold aOf
    rw [mkAt_sat h x]
    simp only [Bool.and_eq_true, decide_eq_true_eq] at hi
    have e : evA x (mixL p a.1 q b.1, p * a.2.1 + q * b.2.1, (a.2.2 && decide (0 < p) || b.2.2 && decide (0 < q))) = (p : Rat) * evA x a + (q : Rat) * evA x b := by
      unfold evA
      rw [dt_mix x p q a.1 b.1 0 hi.1.1.2]
      simp only [Rat.intCast_add, Rat.intCast_mul]
      grind
    unfold Sat
    rw [e]
    simp only [hp, hq, decide_true, Bool.and_true, Bool.or_eq_false_iff]
  · simp [noAt] at h
theorem evA_const {x : Nat → Rat} {a : At} (h : gcdL a.1 = 0) : evA x a = (a.2.1 : Rat) := by
  unfold evA
  rw [dt_zero x a.1 0 ((gcdL_zero a.1).1 h), Rat.add_zero]
theorem badA_not {x : Nat → Rat} {a : At} (h : badA a = true) : ¬ Sat x a := by
  unfold badA at h
  simp only [Bool.and_eq_true, Bool.or_eq_true, decide_eq_true_eq] at h
  unfold Sat
  rw [evA_const h.1]
  rintro (h1 | ⟨h1, h2⟩)
  · have h1 : a.2.1 < 0 := by exact_mod_cast h1
    rcases h.2 with h3 | h3 <;> omega
  · have h1 : a.2.1 = 0 := by exact_mod_cast h1
    rcases h.2 with h3 | h3
    · omega
    · rw [h2] at h3; exact absurd h3.2 (by simp)
theorem const_sat {x : Nat → Rat} {a : At} (h : hasV a = false) (hb : badA a = false) : Sat x a := by
  have h0 : gcdL a.1 = 0 := by simpa [hasV] using h
  unfold badA at hb
  unfold Sat
  rw [evA_const h0]
  simp only [h0, decide_true, Bool.true_and, Bool.or_eq_false_iff, decide_eq_false_iff_not] at hb
  by_cases h1 : a.2.1 = 0
  · right
    refine ⟨by rw [h1]; rfl, ?_⟩
    have := hb.2
    simpa [h1] using this
  · left
    have : a.2.1 < 0 := by omega
    exact_mod_cast this
theorem noneA_not {x : Nat → Rat} (d : Int) : ¬ Sat x (noneA d) := by
  refine badA_not ?_
  have h : gcdL (noneA d).1 = 0 := (gcdL_zero _).2 fun n hn => (List.mem_replicate.1 hn).2
  unfold badA
  rw [h]
  simp [noneA]
theorem dirL_mul (l : List Int) : (dirL l).map (· * div1 (gcdL l)) = l := by
  by_cases h : gcdL l = 0
  · have e : div1 (gcdL l) = 1 := by unfold div1; rw [if_pos h]
    unfold dirL
    rw [e]; simp
  · have := dir_back l h
    have e : div1 (gcdL l) = ((gcdL l : Nat) : Int) := by unfold div1; rw [if_neg h]
    rw [e]; exact this
theorem strong_sat {x : Nat → Rat} {r a : At} (hl : r.1.length = a.1.length) (hw : wayAt r.1 a.1 = 0) (hs : 0 ≤ stA r a) (h : Sat x r) : Sat x a := by
  have hd := way_dir hl hw
  have hs : stA a r ≤ 0 := by rw [stA_flip]; omega
  rw [stA_iff] at hs
  have ga := div1_pos (gcdL a.1)
  have gr := div1_pos (gcdL r.1)
  have ea : dt x 0 a.1 = (div1 (gcdL a.1) : Rat) * dt x 0 (dirL a.1) := by rw [← dt_mul, dirL_mul]
  have er : dt x 0 r.1 = (div1 (gcdL r.1) : Rat) * dt x 0 (dirL a.1) := by rw [← hd, ← dt_mul, dirL_mul]
  have qa := castQ_pos ga
  have qr := castQ_pos gr
  unfold Sat evA at h ⊢
  rw [er] at h
  rw [ea]
  have hs' : (a.2.1 : Rat) * (div1 (gcdL r.1) : Rat) < (r.2.1 : Rat) * (div1 (gcdL a.1) : Rat) ∨ (a.2.1 : Rat) * (div1 (gcdL r.1) : Rat) = (r.2.1 : Rat) * (div1 (gcdL a.1) : Rat) ∧ (a.2.2 = true → r.2.2 = true) := by
    rcases hs with hs | ⟨hs, hs2⟩
    · left; exact_mod_cast hs
    · right; exact ⟨by exact_mod_cast hs, hs2⟩
  generalize (div1 (gcdL a.1) : Rat) = g at *
  generalize (div1 (gcdL r.1) : Rat) = k at *
  generalize dt x 0 (dirL a.1) = D at *
  generalize (a.2.1 : Rat) = c at *
  generalize (r.2.1 : Rat) = e at *
  have key : k * (c + g * D) = (c * k - e * g) + g * (e + k * D) := by grind
  have hk0 := mulQ_neg (k := k) (y := c + g * D) qr
  have hk1 := mulQ_zero (k := k) (y := c + g * D) qr
  have hg0 := mulQ_neg (k := g) (y := e + k * D) qa
  have hg1 := mulQ_zero (k := g) (y := e + k * D) qa
  rcases hs' with hs' | ⟨hs', hs2⟩
  · left
    rw [← hk0, key]
    have : g * (e + k * D) ≤ 0 := by
      rcases h with h | h
      · have := hg0.2 h; grind
      · rw [h.1]; simp
    grind
  · rcases h with h | h
    · left
      rw [← hk0, key]
      have := hg0.2 h; grind
    · right
      constructor
      · rw [← hk1, key, h.1]; grind
      · cases hh : a.2.2 with
        | false => rfl
        | true => rw [hs2 hh] at h; exact absurd h.2 (by simp)
theorem nrm_sat {d : Int} {L : List At} (hL : ∀ a ∈ L, okA d a) (x : Nat → Rat) : SatL x (nrm d L) ↔ SatL x L := by
  unfold nrm
  split
  · rename_i h
    obtain ⟨a, ha, hb⟩ := List.any_eq_true.1 h
    constructor
    · intro h; exact absurd (h _ (by simp)) (noneA_not d)
    · intro h; exact absurd (h a ha) (badA_not hb)
  · rename_i h
    have hb : ∀ a ∈ L, badA a = false := fun a ha => by
      cases e : badA a with
      | false => rfl
      | true => exact absurd (List.any_eq_true.2 ⟨a, ha, e⟩) h
    have len : ∀ a ∈ L.filter hasV, a.1.length = d.toNat := fun a ha => by
      have := (hL a (List.mem_filter.1 ha).1).2; omega
    have N := nfL_norm d.toNat (L.filter hasV) len
    constructor
    · intro h a ha
      by_cases hv : hasV a = true
      · obtain ⟨r, hr, k1, k2⟩ := N.best a (List.mem_filter.2 ⟨ha, hv⟩)
        exact strong_sat (by rw [len r (N.sub r hr), len a (List.mem_filter.2 ⟨ha, hv⟩)]) k1 k2 (h r hr)
      · exact const_sat (by simpa using hv) (hb a ha)
    · intro h r hr
      exact h r (List.mem_filter.1 (N.sub r hr)).1
end Go.Proofs.Ytjknjekemolndaa.Abs.Pl
set_option linter.unusedVariables false
namespace Go.Proofs.Ytjknjekemolndaa.Abs.Pl
open Go
def mx (v : Nat) (a b : At) : At2 := mixAt a.1 a.2.1 a.2.2 (-(b.1.getD v 0)) b.1 b.2.1 b.2.2 (a.1.getD v 0)
theorem mixGo_mem (v : Nat) (a : At) : ∀ (bs acc M : List At), mixGo v a bs acc = some M → (∀ m, m ∈ M ↔ m ∈ acc ∨ ∃ b ∈ bs, b.1.getD v 0 < 0 ∧ m = aOf (mx v a b)) ∧ ∀ b ∈ bs, b.1.getD v 0 < 0 → (mx v a b).2.2.2 = true
  | [], acc, M, e => by
    obtain rfl := Option.some.inj e
    simp
  | b :: bs, acc, M, e => by
    unfold mixGo at e
    split at e
    · rename_i h0
      obtain ⟨h1, h2⟩ := mixGo_mem v a bs acc M e
      refine ⟨fun m => ?_, fun c hc hn => ?_⟩
      · rw [h1 m]
        constructor
        · rintro (h | ⟨c, hc, h3⟩)
          · exact .inl h
          · exact .inr ⟨c, List.mem_cons_of_mem _ hc, h3⟩
        · rintro (h | ⟨c, hc, h3⟩)
          · exact .inl h
          · rcases List.mem_cons.1 hc with rfl | hc
            · omega
            · exact .inr ⟨c, hc, h3⟩
      · rcases List.mem_cons.1 hc with rfl | hc
        · omega
        · exact h2 c hc hn
    · rename_i h0
      split at e
      · rename_i hf
        obtain ⟨h1, h2⟩ := mixGo_mem v a bs _ M e
        refine ⟨fun m => ?_, fun c hc hn => ?_⟩
        · rw [h1 m]
          constructor
          · rintro (h | ⟨c, hc, h3⟩)
            · rcases List.mem_append.1 h with h | h
              · exact .inl h
              · exact .inr ⟨b, List.mem_cons_self, by omega, List.mem_singleton.1 h⟩
            · exact .inr ⟨c, List.mem_cons_of_mem _ hc, h3⟩
          · rintro (h | ⟨c, hc, h3⟩)
            · exact .inl (List.mem_append_left _ h)
            · rcases List.mem_cons.1 hc with rfl | hc
              · exact .inl (List.mem_append_right _ (List.mem_singleton.2 h3.2))
              · exact .inr ⟨c, hc, h3⟩
        · rcases List.mem_cons.1 hc with rfl | hc
          · exact hf
          · exact h2 c hc hn
      · cases e
theorem dropGo_mem (v : Nat) (L : List At) : ∀ (T acc M : List At), dropGo v L T acc = some M → (∀ m, m ∈ M ↔ m ∈ acc ∨ ∃ a ∈ T, 0 < a.1.getD v 0 ∧ ∃ b ∈ L, b.1.getD v 0 < 0 ∧ m = aOf (mx v a b)) ∧ ∀ a ∈ T, 0 < a.1.getD v 0 → ∀ b ∈ L, b.1.getD v 0 < 0 → (mx v a b).2.2.2 = true
  | [], acc, M, e => by
    obtain rfl := Option.some.inj e
    simp
  | a :: T, acc, M, e => by
    unfold dropGo at e
    split at e
    · rename_i h0
      obtain ⟨h1, h2⟩ := dropGo_mem v L T acc M e
      refine ⟨fun m => ?_, fun c hc hn => ?_⟩
      · rw [h1 m]
        constructor
        · rintro (h | ⟨c, hc, h3⟩)
          · exact .inl h
          · exact .inr ⟨c, List.mem_cons_of_mem _ hc, h3⟩
        · rintro (h | ⟨c, hc, h3⟩)
          · exact .inl h
          · rcases List.mem_cons.1 hc with rfl | hc
            · omega
            · exact .inr ⟨c, hc, h3⟩
      · rcases List.mem_cons.1 hc with rfl | hc
        · omega
        · exact h2 c hc hn
    · rename_i h0
      obtain ⟨M1, e1, e2⟩ := Option.bind_eq_some_iff.mp e
      obtain ⟨k1, k2⟩ := mixGo_mem v a L acc M1 e1
      obtain ⟨h1, h2⟩ := dropGo_mem v L T M1 M e2
      refine ⟨fun m => ?_, fun c hc hn => ?_⟩
      · rw [h1 m, k1 m]
        constructor
        · rintro ((h | h) | ⟨c, hc, h3⟩)
          · exact .inl h
          · exact .inr ⟨a, List.mem_cons_self, by omega, h⟩
          · exact .inr ⟨c, List.mem_cons_of_mem _ hc, h3⟩
        · rintro (h | ⟨c, hc, h3⟩)
          · exact .inl (.inl h)
          · rcases List.mem_cons.1 hc with rfl | hc
            · exact .inl (.inr h3.2)
            · exact .inr ⟨c, hc, h3⟩
      · rcases List.mem_cons.1 hc with rfl | hc
        · exact k2
        · exact h2 c hc hn
theorem lowBest : ∀ Ls : List (Rat × Bool), Ls ≠ [] → ∃ m ∈ Ls, ∀ l ∈ Ls, l.1 < m.1 ∨ l.1 = m.1 ∧ (l.2 = true → m.2 = true)
  | [], h => absurd rfl h
  | a :: Ls, _ => by
    by_cases he : Ls = []
    · subst he
      exact ⟨a, by simp, fun l hl => by obtain rfl := List.mem_singleton.1 hl; exact .inr ⟨rfl, id⟩⟩
    · obtain ⟨m, hm, h⟩ := lowBest Ls he
      by_cases h1 : a.1 < m.1 ∨ a.1 = m.1 ∧ (a.2 = true → m.2 = true)
      · exact ⟨m, List.mem_cons_of_mem _ hm, fun l hl => by
          rcases List.mem_cons.1 hl with rfl | hl
          · exact h1
          · exact h l hl⟩
      · refine ⟨a, List.mem_cons_self, fun l hl => ?_⟩
        rcases List.mem_cons.1 hl with rfl | hl
        · exact .inr ⟨rfl, id⟩
        · have := h l hl
          have h2 : ¬ a.1 < m.1 := fun h => h1 (.inl h)
          by_cases h3 : a.1 = m.1
          · have h4 : a.2 = true ∧ ¬ m.2 = true := by
              refine ⟨?_, ?_⟩
              · cases h5 : a.2 with
                | true => rfl
                | false => exact absurd (.inr ⟨h3, fun h => by rw [h5] at h; cases h⟩) h1
              · intro h5; exact h1 (.inr ⟨h3, fun _ => h5⟩)
            rcases this with h5 | ⟨h5, h6⟩
            · exact .inl (by rw [h3]; exact h5)
            · exact .inr ⟨by rw [h3]; exact h5, fun _ => h4.1⟩
          · left
            rcases this with h5 | ⟨h5, h6⟩ <;> grind
theorem upBest (Us : List (Rat × Bool)) (h : Us ≠ []) : ∃ m ∈ Us, ∀ u ∈ Us, m.1 < u.1 ∨ u.1 = m.1 ∧ (u.2 = true → m.2 = true) := by
  obtain ⟨m, hm, k⟩ := lowBest (Us.map fun u => (-u.1, u.2)) (by simpa using h)
  obtain ⟨w, hw, rfl⟩ := List.mem_map.1 hm
  refine ⟨w, hw, fun u hu => ?_⟩
  rcases k _ (List.mem_map.2 ⟨u, hu, rfl⟩) with k | ⟨k, k2⟩
  · left
    have k : -u.1 < -w.1 := k
    grind
  · right
    have k : -u.1 = -w.1 := k
    exact ⟨by grind, k2⟩
def belowU (t : Rat) (u : Rat × Bool) : Prop := t < u.1 ∨ t = u.1 ∧ u.2 = false
def aboveL (t : Rat) (l : Rat × Bool) : Prop := l.1 < t ∨ t = l.1 ∧ l.2 = false
def fitsLU (l u : Rat × Bool) : Prop := l.1 < u.1 ∨ l.1 = u.1 ∧ l.2 = false ∧ u.2 = false
theorem mid_fits {l u : Rat × Bool} (h : fitsLU l u) : aboveL ((l.1 + u.1) / 2) l ∧ belowU ((l.1 + u.1) / 2) u := by
  unfold fitsLU at h
  unfold aboveL belowU
  rcases h with h | ⟨h, h1, h2⟩
  · exact ⟨.inl (by grind), .inl (by grind)⟩
  · exact ⟨.inr ⟨by grind, h1⟩, .inr ⟨by grind, h2⟩⟩
theorem aboveL_mono {t : Rat} {l m : Rat × Bool} (h : l.1 < m.1 ∨ l.1 = m.1 ∧ (l.2 = true → m.2 = true)) (h1 : aboveL t m) : aboveL t l := by
  unfold aboveL at *
  rcases h with h | ⟨h, h2⟩
  · left; rcases h1 with h1 | h1 <;> grind
  · rcases h1 with h1 | ⟨h1, h3⟩
    · left; grind
    · right
      refine ⟨by grind, ?_⟩
      cases hl : l.2 with
      | false => rfl
      | true => rw [h2 hl] at h3; cases h3
theorem belowU_mono {t : Rat} {u m : Rat × Bool} (h : m.1 < u.1 ∨ u.1 = m.1 ∧ (u.2 = true → m.2 = true)) (h1 : belowU t m) : belowU t u := by
  unfold belowU at *
  rcases h with h | ⟨h, h2⟩
  · left; rcases h1 with h1 | h1 <;> grind
  · rcases h1 with h1 | ⟨h1, h3⟩
    · left; grind
    · right
      refine ⟨by grind, ?_⟩
      cases hl : u.2 with
      | false => rfl
      | true => rw [h2 hl] at h3; cases h3
theorem exT (Ls Us : List (Rat × Bool)) (h : ∀ l ∈ Ls, ∀ u ∈ Us, fitsLU l u) : ∃ t, (∀ l ∈ Ls, aboveL t l) ∧ ∀ u ∈ Us, belowU t u := by
  by_cases hl : Ls = []
  · by_cases hu : Us = []
    · subst hl hu
      exact ⟨0, by simp, by simp⟩
    · obtain ⟨m, hm, k⟩ := upBest Us hu
      subst hl
      exact ⟨m.1 - 1, by simp, fun u hu => belowU_mono (k u hu) (.inl (by grind))⟩
  · obtain ⟨m, hm, k⟩ := lowBest Ls hl
    by_cases hu : Us = []
    · subst hu
      exact ⟨m.1 + 1, fun l hl => aboveL_mono (k l hl) (.inl (by grind)), by simp⟩
    · obtain ⟨w, hw, k2⟩ := upBest Us hu
      obtain ⟨h1, h2⟩ := mid_fits (h m hm w hw)
      exact ⟨_, fun l hl => aboveL_mono (k l hl) h1, fun u hu => belowU_mono (k2 u hu) h2⟩
def bv (x : Nat → Rat) (v : Nat) (a : At) : Rat := x v - evA x a / ((a.1.getD v 0 : Int) : Rat)
theorem sat_up {x : Nat → Rat} {v : Nat} {a : At} (h : 0 < a.1.getD v 0) (t : Rat) : Sat (upd x v t) a ↔ belowU t (bv x v a, a.2.2) := by
  unfold Sat belowU
  rw [evA_upd]
  have h := castQ_pos h
  unfold bv
  generalize ((a.1.getD v 0 : Int) : Rat) = n at *
  generalize evA x a = e
  have hn : n ≠ 0 := by grind
  have key : e + n * (t - x v) = n * (t - (x v - e / n)) := by grind
  rw [key, mulQ_neg h, mulQ_zero h]
  constructor
  · rintro (k | k)
    · left; grind
    · right; exact ⟨by grind, k.2⟩
  · rintro (k | k)
    · left; grind
    · right; exact ⟨by grind, k.2⟩
theorem sat_lo {x : Nat → Rat} {v : Nat} {a : At} (h : a.1.getD v 0 < 0) (t : Rat) : Sat (upd x v t) a ↔ aboveL t (bv x v a, a.2.2) := by
  unfold Sat aboveL
  rw [evA_upd]
  have h := castQ_neg h
  unfold bv
  generalize ((a.1.getD v 0 : Int) : Rat) = n at *
  generalize evA x a = e
  have hn : n ≠ 0 := by grind
  have h : 0 < -n := by grind
  have key : e + n * (t - x v) = (-n) * ((x v - e / n) - t) := by grind
  rw [key, mulQ_neg h, mulQ_zero h]
  constructor
  · rintro (k | k)
    · left; grind
    · right; exact ⟨by grind, k.2⟩
  · rintro (k | k)
    · left; grind
    · right; exact ⟨by grind, k.2⟩
theorem sat_no {x : Nat → Rat} {v : Nat} {a : At} (h : a.1.getD v 0 = 0) (t : Rat) : Sat (upd x v t) a ↔ Sat x a := by
  unfold Sat
  rw [evA_upd, h]
  simp [Rat.add_zero]
theorem mx_sat {x : Nat → Rat} {v : Nat} {a b : At} (ha : 0 < a.1.getD v 0) (hb : b.1.getD v 0 < 0) (hf : (mx v a b).2.2.2 = true) : Sat x (aOf (mx v a b)) ↔ fitsLU (bv x v b, b.2.2) (bv x v a, a.2.2) := by
  unfold mx at hf ⊢
  rw [mixAt_sat (show 0 < -(b.1.getD v 0) by omega) ha hf x]
  unfold fitsLU bv
  have h1 := castQ_pos ha
  have h2 := castQ_neg hb
  have e : ((-(b.1.getD v 0) : Int) : Rat) = -((b.1.getD v 0 : Int) : Rat) := by simp
  rw [e]
  generalize ((a.1.getD v 0 : Int) : Rat) = n at *
  generalize ((b.1.getD v 0 : Int) : Rat) = m at *
  generalize evA x a = f
  generalize evA x b = g
  have hn : n ≠ 0 := by grind
  have hm : m ≠ 0 := by grind
  have hk : 0 < n * (-m) := Rat.mul_pos h1 (by grind)
  have key : -m * f + n * g = (n * (-m)) * ((x v - g / m) - (x v - f / n)) := by
    have e1 : n * (f / n) = f := by grind
    have e2 : m * (g / m) = g := by grind
    generalize f / n = y at *
    generalize g / m = z at *
    rw [← e1, ← e2]
    grind
  rw [key, mulQ_neg hk, mulQ_zero hk]
  constructor
  · rintro (k | ⟨k, k1, k2⟩)
    · left; show x v - g / m < x v - f / n; grind
    · right; exact ⟨by show x v - g / m = x v - f / n; grind, k2, k1⟩
  · rintro (k | ⟨k, k1, k2⟩)
    · have k : x v - g / m < x v - f / n := k
      left; grind
    · have k : x v - g / m = x v - f / n := k
      right; exact ⟨by grind, k2, k1⟩
theorem dropGo_sat {v : Nat} {L M : List At} (e : dropGo v L L (L.filter (free v)) = some M) (x : Nat → Rat) : SatL x M ↔ ∃ t, SatL (upd x v t) L := by
  obtain ⟨h1, h2⟩ := dropGo_mem v L L _ M e
  constructor
  · intro h
    obtain ⟨t, k1, k2⟩ := exT ((L.filter fun a : At => decide (a.1.getD v 0 < 0)).map fun a : At => (bv x v a, a.2.2)) ((L.filter fun a : At => decide (0 < a.1.getD v 0)).map fun a : At => (bv x v a, a.2.2)) (by
      intro l hl u hu
      obtain ⟨b, hb, rfl⟩ := List.mem_map.1 hl
      obtain ⟨a, ha, rfl⟩ := List.mem_map.1 hu
      simp only [List.mem_filter, decide_eq_true_eq] at ha hb
      rw [← mx_sat ha.2 hb.2 (h2 a ha.1 ha.2 b hb.1 hb.2)]
      exact h _ ((h1 _).2 (.inr ⟨a, ha.1, ha.2, b, hb.1, hb.2, rfl⟩)))
    refine ⟨t, fun a ha => ?_⟩
    rcases Int.lt_trichotomy (a.1.getD v 0) 0 with hz | hz | hz
    · rw [sat_lo hz]
      exact k1 _ (List.mem_map.2 ⟨a, List.mem_filter.2 ⟨ha, by simpa using hz⟩, rfl⟩)
    · rw [sat_no hz]
      exact h a ((h1 a).2 (.inl (List.mem_filter.2 ⟨ha, by simpa [free] using hz⟩)))
    · rw [sat_up hz]
      exact k2 _ (List.mem_map.2 ⟨a, List.mem_filter.2 ⟨ha, by simpa using hz⟩, rfl⟩)
  · rintro ⟨t, h⟩ m hm
    rcases (h1 m).1 hm with hm | ⟨a, ha, hz, b, hb, hz', rfl⟩
    · obtain ⟨hm, hz⟩ := List.mem_filter.1 hm
      have hz : m.1.getD v 0 = 0 := by simpa [free] using hz
      rw [← sat_no hz t]
      exact h m hm
    · rw [mx_sat hz hz' (h2 a ha hz b hb hz')]
      have k1 := (sat_up hz t).1 (h a ha)
      have k2 := (sat_lo hz' t).1 (h b hb)
      unfold belowU at k1
      unfold aboveL at k2
      unfold fitsLU
      dsimp only at k1 k2 ⊢
      rcases k1 with k1 | ⟨k1, s1⟩
      · left; rcases k2 with k2 | k2 <;> grind
      · rcases k2 with k2 | ⟨k2, s2⟩
        · left; grind
        · right; exact ⟨by grind, s2, s1⟩
theorem dropC_some {d : Int} {v : Nat} {L : List At} (h : (dropC d v L).2.2 = true) : ∃ M, dropGo v L L (L.filter (free v)) = some M ∧ (dropC d v L).2.1 = nrm d M ∧ (dropC d v L).1 = d := by
  unfold dropC at h ⊢
  cases e : dropGo v L L (L.filter (free v)) with
  | none => rw [e] at h; cases h
  | some M =>
    rw [e] at h
    simp only [limN] at h ⊢
    split at h
    · cases h
    · rename_i h16
      rw [if_neg h16]
      exact ⟨M, rfl, rfl, rfl⟩
theorem mid_ok {d : Int} (v : Nat) {L M : List At} (hL : ∀ a ∈ L, okA d a) (e : dropGo v L L (L.filter (free v)) = some M) : ∀ b ∈ M, okA d b :=
  (dropGo_ok v hL L _ M hL (fun b hb => hL b (List.mem_filter.1 hb).1) e).1
theorem dropC_sat {d : Int} {v : Nat} {L : List At} (hL : ∀ a ∈ L, okA d a) (h : (dropC d v L).2.2 = true) (x : Nat → Rat) : SatL x (dropC d v L).2.1 ↔ ∃ t, SatL (upd x v t) L := by
  obtain ⟨M, e, e2, _⟩ := dropC_some h
  rw [e2, nrm_sat (mid_ok v hL e), dropGo_sat e]
def noV (v : Nat) (L : List At) : Prop := ∀ a ∈ L, a.1.getD v 0 = 0
theorem mkAt_getD {l : List Int} {c : Int} {s : Bool} {v : Nat} (h : l.getD v 0 = 0) : (mkAt l c s).1.getD v 0 = 0 := by
  unfold mkAt
  dsimp only
  split
  · show (l.map _).getD v 0 = 0
    rw [List.getD_eq_getElem?_getD, List.getElem?_map]
    rw [List.getD_eq_getElem?_getD] at h
    cases e : l[v]? with
    | none => rfl
    | some y => rw [e] at h; simp at h; simp [h]
  · simp [noAt]
theorem mix_getD (p q : Int) (v : Nat) : ∀ (l m : List Int), l.length = m.length → (mixL p l q m).getD v 0 = p * l.getD v 0 + q * m.getD v 0 := by
  intro l m h
  unfold mixL
  simp only [List.getD_eq_getElem?_getD, List.getElem?_zipWith]
  by_cases hv : v < l.length
  · rw [List.getElem?_eq_getElem hv, List.getElem?_eq_getElem (by omega)]; rfl
  · rw [List.getElem?_eq_none (by omega), List.getElem?_eq_none (by omega)]; simp
theorem mx_getD {v w : Nat} {a b : At} (h : (-(b.1.getD v 0)) * a.1.getD w 0 + a.1.getD v 0 * b.1.getD w 0 = 0) : (aOf (mx v a b)).1.getD w 0 = 0 := by
  show (mx v a b).1.getD w 0 = 0
  unfold mx mixAt
  split
  · rename_i hi
    simp only [Bool.and_eq_true, decide_eq_true_eq] at hi
    exact mkAt_getD (by rw [mix_getD _ _ _ _ _ hi.1.1.2]; exact h)
  · simp [noAt]
theorem noneA_getD (d : Int) (v : Nat) : (noneA d).1.getD v 0 = 0 := by
  unfold noneA
  rw [List.getD_eq_getElem?_getD, List.getElem?_replicate]
  split <;> rfl
theorem nrm_noV {d : Int} {v : Nat} {L : List At} (hL : ∀ a ∈ L, okA d a) (h : noV v L) : noV v (nrm d L) := by
  unfold nrm
  split
  · intro a ha
    obtain rfl := List.mem_singleton.1 ha
    exact noneA_getD d v
  · intro a ha
    have len : ∀ a ∈ L.filter hasV, a.1.length = d.toNat := fun a ha => by
      have := (hL a (List.mem_filter.1 ha).1).2; omega
    exact h a (List.mem_filter.1 ((nfL_norm d.toNat (L.filter hasV) len).sub a ha)).1
theorem dropC_noV {d : Int} {v w : Nat} {L : List At} (hL : ∀ a ∈ L, okA d a) (h : (dropC d v L).2.2 = true) (hw : w = v ∨ noV w L) : noV w (dropC d v L).2.1 := by
  obtain ⟨M, e, e2, _⟩ := dropC_some h
  rw [e2]
  refine nrm_noV (mid_ok v hL e) ?_
  intro m hm
  obtain ⟨h1, h2⟩ := dropGo_mem v L L _ M e
  rcases (h1 m).1 hm with hm | ⟨a, ha, hz, b, hb, hz', rfl⟩
  · obtain ⟨hm, hz⟩ := List.mem_filter.1 hm
    have hz : m.1.getD v 0 = 0 := by simpa [free] using hz
    rcases hw with rfl | hw
    · exact hz
    · exact hw m hm
  · refine mx_getD ?_
    rcases hw with rfl | hw
    · rw [Int.neg_mul, Int.mul_comm]; omega
    · rw [hw a ha, hw b hb]; simp
theorem elim_sat {d : Int} (hd : 0 ≤ d ∧ d ≤ 4) : ∀ (n : Nat) (L R : List At), L.length ≤ 16 → (∀ a ∈ L, okA d a) → elim d n L = some R → (∀ a ∈ R, okA d a) ∧ (∀ w, (w < n ∨ noV w L) → noV w R) ∧ ∀ x, SatL x R ↔ ∃ y : Nat → Rat, (∀ k, n ≤ k → y k = x k) ∧ SatL y L
  | 0, L, R, h16, hL, e => by
    obtain rfl := Option.some.inj e
    refine ⟨hL, fun w hw => hw.resolve_left (by omega), fun x => ⟨fun h => ⟨x, fun _ _ => rfl, h⟩, ?_⟩⟩
    rintro ⟨y, hy, h⟩
    have : y = x := funext fun k => hy k (Nat.zero_le k)
    rw [← this]; exact h
  | n + 1, L, R, h16, hL, e => by
    unfold elim at e
    split at e
    · rename_i h
      have ok := dropC_ok hd n h16 hL h
      obtain ⟨r1, r2, r3⟩ := elim_sat hd n _ R ok.2.1 ok.2.2 e
      refine ⟨r1, fun w hw => r2 w ?_, fun x => ?_⟩
      · by_cases hwn : w < n
        · exact .inl hwn
        · right
          refine dropC_noV hL h ?_
          rcases hw with hw | hw
          · exact .inl (by omega)
          · exact .inr hw
      · rw [r3 x]
        constructor
        · rintro ⟨y, hy, h1⟩
          obtain ⟨t, h2⟩ := (dropC_sat hL h y).1 h1
          refine ⟨upd y n t, fun k hk => ?_, h2⟩
          unfold upd
          rw [if_neg (by omega)]
          exact hy k (by omega)
        · rintro ⟨y, hy, h1⟩
          refine ⟨upd y n (x n), fun k hk => ?_, (dropC_sat hL h _).2 ⟨y n, by rw [upd_upd, upd_self]; exact h1⟩⟩
          unfold upd
          split
          · rename_i hk2; rw [hk2]
          · exact hy k (by omega)
    · cases e
theorem nrm_nf {d : Int} {L : List At} (hL : ∀ a ∈ L, okA d a) : nrm d L = [noneA d] ∨ ∀ a ∈ nrm d L, gcdL a.1 ≠ 0 := by
  unfold nrm
  split
  · exact .inl rfl
  · right
    intro a ha
    have len : ∀ a ∈ L.filter hasV, a.1.length = d.toNat := fun a ha => by
      have := (hL a (List.mem_filter.1 ha).1).2; omega
    have := (List.mem_filter.1 ((nfL_norm d.toNat (L.filter hasV) len).sub a ha)).2
    simpa [hasV] using this
theorem noV_gcd {d : Int} {L : List At} (hL : ∀ a ∈ L, okA d a) (h : ∀ w, w < d.toNat → noV w L) : ∀ a ∈ L, gcdL a.1 = 0 := by
  intro a ha
  rw [gcdL_zero]
  intro n hn
  obtain ⟨i, hi, rfl⟩ := List.mem_iff_getElem.1 hn
  have := h i (by have := (hL a ha).2; omega) a ha
  rwa [getD_of_lt hi] at this
theorem elim_nf {d : Int} (hd : 0 ≤ d ∧ d ≤ 4) : ∀ (n : Nat) (L R : List At), L.length ≤ 16 → (∀ a ∈ L, okA d a) → (L = [noneA d] ∨ ∀ a ∈ L, gcdL a.1 ≠ 0) → elim d n L = some R → (R = [noneA d] ∨ ∀ a ∈ R, gcdL a.1 ≠ 0)
  | 0, L, R, h16, hL, h0, e => by
    obtain rfl := Option.some.inj e
    exact h0
  | n + 1, L, R, h16, hL, h0, e => by
    unfold elim at e
    split at e
    · rename_i h
      have ok := dropC_ok hd n h16 hL h
      refine elim_nf hd n _ R ok.2.1 ok.2.2 ?_ e
      obtain ⟨M, e1, e2, _⟩ := dropC_some h
      rw [e2]
      exact nrm_nf (mid_ok n hL e1)
    · cases e
theorem elim_end {d : Int} (hd : 0 ≤ d ∧ d ≤ 4) {L R : List At} (h16 : L.length ≤ 16) (hL : ∀ a ∈ L, okA d a) (e : elim d d.toNat (nrm d L) = some R) : (R = [] ∧ ∃ x, SatL x L) ∨ (R = [noneA d] ∧ ∀ x, ¬ SatL x L) := by
  have hn := nrm_ok hd hL
  obtain ⟨r1, r2, r3⟩ := elim_sat hd d.toNat _ R (nrm_16 d L h16) hn e
  have rf := elim_nf hd d.toNat _ R (nrm_16 d L h16) hn (nrm_nf hL) e
  have rz := noV_gcd r1 fun w hw => r2 w (.inl hw)
  rcases rf with rf | rf
  · right
    refine ⟨rf, fun x hx => ?_⟩
    have := (r3 x).2 ⟨x, fun _ _ => rfl, (nrm_sat hL x).2 hx⟩
    rw [rf] at this
    exact noneA_not d (this _ (by simp))
  · left
    have : R = [] := by
      cases R with
      | nil => rfl
      | cons a R => exact absurd (rz a (by simp)) (rf a (by simp))
    refine ⟨this, ?_⟩
    obtain ⟨y, _, hy⟩ := (r3 (fun _ => 0)).1 (by rw [this]; intro a ha; cases ha)
    exact ⟨y, (nrm_sat hL y).1 hy⟩
theorem emptyC_sat {d : Int} {L : List At} (h : (emptyC d L).2 = true) : isCe d L = true ∧ ((emptyC d L).1 = true ↔ ∀ x, ¬ SatL x L) := by
  unfold emptyC at h ⊢
  split at h
  · rename_i hc
    rw [if_pos hc]
    obtain ⟨hd, h16, hL⟩ := okCe.1 hc
    cases e : elim d d.toNat (nrm d L) with
    | none => rw [e] at h; cases h
    | some R =>
      refine ⟨hc, ?_⟩
      rcases elim_end hd h16 hL e with ⟨rfl, x, hx⟩ | ⟨rfl, hx⟩
      · simp only [List.length_nil, Nat.lt_irrefl, decide_false, Bool.false_eq_true, false_iff]
        exact fun k => k x hx
      · simp only [List.length_singleton, Nat.zero_lt_one, decide_true, true_iff]
        exact hx
  · cases h
end Go.Proofs.Ytjknjekemolndaa.Abs.Pl
namespace Go.Proofs.Ytjknjekemolndaa.ZL
open Go Go.Proofs.Ytjknjekemolndaa.Abs Go.Proofs.Ytjknjekemolndaa.Abs.Pl Go.RowKit Go.Proofs
set_option linter.unusedVariables false
set_option linter.unusedSimpArgs false
def rv (r : Int × Int) : Rat := (r.1 : Rat) / (r.2 : Rat)
theorem isRat_den {n d : Int} (h : isRat n d = true) : 0 < d := by rw [isRat_iff] at h; omega
theorem tdivQ {a g : Int} (hg : ¬ g = 0) (h : g ∣ a) : ((a.tdiv g : Int) : Rat) = (a : Rat) / (g : Rat) := by
  have e := Int.tdiv_mul_cancel h
  have e2 : ((a.tdiv g : Int) : Rat) * (g : Rat) = (a : Rat) := by exact_mod_cast congrArg (fun x : Int => (x : Rat)) e
  have := castQ_ne hg
  rw [← e2, Rat.mul_div_cancel this]
theorem isRat00 : isRat 0 0 = false := by decide
theorem mkR_rv {n d : Int} (hd : ¬ d = 0) (h : isRat (mkR n d).1 (mkR n d).2 = true) : rv (mkR n d) = (n : Rat) / (d : Rat) := by
  have hg : ¬ (Int.gcd n d : Int) = 0 := by
    intro h
    have := Int.gcd_eq_zero_iff.1 (Int.ofNat_eq_zero.1 h)
    exact hd this.2
  unfold mkR at h ⊢
  rw [if_neg hd] at h ⊢
  have h1 := castQ_ne hd
  have h2 : (((Int.gcd n d : Int)) : Rat) ≠ 0 := castQ_ne hg
  have e1 := tdivQ hg (Int.gcd_dvd_left n d)
  have e2 := tdivQ hg (Int.gcd_dvd_right n d)
  have key : rv (n.tdiv (Int.gcd n d), d.tdiv (Int.gcd n d)) = (n : Rat) / (d : Rat) := by
    unfold rv
    simp only [e1, e2]
    clear h e1 e2
    generalize (((Int.gcd n d : Int)) : Rat) = g at *
    generalize (n : Rat) = a at *
    generalize (d : Rat) = b at *
    clear hg
    grind
  by_cases hneg : d < 0
  · simp only [hneg, if_true] at h ⊢
    split at h
    · rename_i hr
      simp only [hr, if_true]
      rw [← key]
      unfold rv
      simp only [Int.neg_tdiv, Rat.intCast_neg]
      generalize ((n.tdiv (Int.gcd n d) : Int) : Rat) = a at *
      generalize ((d.tdiv (Int.gcd n d) : Int) : Rat) = b at *
      clear h hr hg e1 e2 h1 h2 key
      by_cases hb : b = 0
      · subst hb; simp [-Bool.exists_bool, -Int.not_le, -Int.not_lt, -getElem?_pos, -List.getD_eq_getElem?_getD, Rat.div_def]
      · grind
    · simp [-Bool.exists_bool, -Int.not_le, -Int.not_lt, -getElem?_pos, -List.getD_eq_getElem?_getD, isRat00] at h
  · simp only [hneg, if_false] at h ⊢
    split at h
    · rename_i hr
      simp only [hr, if_true]
      exact key
    · simp [-Bool.exists_bool, -Int.not_le, -Int.not_lt, -getElem?_pos, -List.getD_eq_getElem?_getD, isRat00] at h
theorem rat_lt {a b : Int × Int} (ha : isRat a.1 a.2 = true) (hb : isRat b.1 b.2 = true) : a.1 * b.2 < b.1 * a.2 ↔ rv a < rv b := by
  have pa := castQ_pos (isRat_den ha)
  have pb := castQ_pos (isRat_den hb)
  have e : ((a.1 * b.2 : Int) : Rat) - ((b.1 * a.2 : Int) : Rat) = ((a.2 : Rat) * (b.2 : Rat)) * (rv a - rv b) := by
    unfold rv
    simp only [Rat.intCast_mul]
    have : (a.2 : Rat) ≠ 0 := by grind
    have : (b.2 : Rat) ≠ 0 := by grind
    grind
  have hk := Rat.mul_pos pa pb
  have k := mulQ_neg (y := rv a - rv b) hk
  rw [← e] at k
  constructor
  · intro h
    have h : ((a.1 * b.2 : Int) : Rat) < ((b.1 * a.2 : Int) : Rat) := by exact_mod_cast h
    have := k.1 (by grind)
    grind
  · intro h
    have := k.2 (by grind)
    have h : ((a.1 * b.2 : Int) : Rat) < ((b.1 * a.2 : Int) : Rat) := by grind
    exact_mod_cast h
theorem rat_eq {a b : Int × Int} (ha : isRat a.1 a.2 = true) (hb : isRat b.1 b.2 = true) : a.1 * b.2 = b.1 * a.2 ↔ rv a = rv b := by
  have h1 := rat_lt ha hb
  have h2 := rat_lt hb ha
  constructor
  · intro h
    have h1 : ¬ rv a < rv b := fun k => by have := h1.2 k; omega
    have h2 : ¬ rv b < rv a := fun k => by have := h2.2 k; omega
    grind
  · intro h
    have h1 : ¬ a.1 * b.2 < b.1 * a.2 := fun k => by have := h1.1 k; grind
    have h2 : ¬ b.1 * a.2 < a.1 * b.2 := fun k => by have := h2.1 k; grind
    omega
theorem cmpR_lt {a b : Int × Int} (ha : isRat a.1 a.2 = true) (hb : isRat b.1 b.2 = true) : cmpR a b < 0 ↔ rv a < rv b := (cmp_lt ha hb).trans (rat_lt ha hb)
theorem cmpR_gt {a b : Int × Int} (ha : isRat a.1 a.2 = true) (hb : isRat b.1 b.2 = true) : 0 < cmpR a b ↔ rv b < rv a := (cmp_gt ha hb).trans (rat_lt hb ha)
theorem cmpR_eq {a b : Int × Int} (ha : isRat a.1 a.2 = true) (hb : isRat b.1 b.2 = true) : cmpR a b = 0 ↔ rv a = rv b := by
  have h1 := cmpR_lt ha hb
  have h2 := cmpR_gt ha hb
  constructor
  · intro h
    have h1 : ¬ rv a < rv b := fun k => by have := h1.2 k; omega
    have h2 : ¬ rv b < rv a := fun k => by have := h2.2 k; omega
    grind
  · intro h
    have h1 : ¬ cmpR a b < 0 := fun k => by have := h1.1 k; grind
    have h2 : ¬ 0 < cmpR a b := fun k => by have := h2.1 k; grind
    omega
def only (v : Nat) (a : At) : Prop := ∀ w, w ≠ v → a.1.getD w 0 = 0
theorem nth_getD (l : List Int) (v : Nat) : nth l v = l.getD v 0 := rfl
theorem evA_only {x : Nat → Rat} {v : Nat} {a : At} (h : only v a) : evA x a = (a.2.1 : Rat) + ((a.1.getD v 0 : Int) : Rat) * x v := by
  have e : evA x a = evA (upd (fun _ => 0) v (x v)) a := by
    unfold evA
    rw [dt_congr a.1 0 (x := x) (y := upd (fun _ => 0) v (x v)) fun i hi => ?_]
    by_cases hiv : i = v
    · right; rw [Nat.zero_add, hiv, upd_at]
    · exact .inl (h i hiv)
  rw [e, evA_upd]
  have e0 : evA (fun _ => 0) a = (a.2.1 : Rat) := by
    unfold evA
    have : ∀ (l : List Int) (k : Nat), dt (fun _ => 0) k l = 0 := by
      intro l
      induction l with
      | nil => intro k; rfl
      | cons n l ih => intro k; unfold dt; rw [ih]; simp [-Bool.exists_bool, -Int.not_le, -Int.not_lt, -getElem?_pos, -List.getD_eq_getElem?_getD, Rat.add_zero]
    rw [this, Rat.add_zero]
  rw [e0]
  grind
def within (b : Bd) (t : Rat) : Prop := (b.hl = true → aboveL t (rv b.lo, b.lop)) ∧ (b.hh = true → belowU t (rv b.hi, b.hop))
theorem bv_only {d : Int} {x : Nat → Rat} {v : Nat} {a : At} (ho : okA d a) (h : only v a) (h0 : nth a.1 v ≠ 0) : bv x v a = rv (mkR (-a.2.1) (nth a.1 v)) := by
  have hvl : v < a.1.length := by
    rcases Nat.lt_or_ge v a.1.length with h2 | h2
    · exact h2
    · exact absurd (by rw [nth_getD, List.getD_eq_getElem?_getD, List.getElem?_eq_none h2]; rfl) h0
  have hnu := okA_num ho
  have hx := hnu.1 _ (nth_mem hvl)
  have hc := isNum_iff.1 hnu.2.1
  have hcn : isNum (-a.2.1) = true := isNum_iff.2 ⟨by omega, by omega⟩
  rw [mkR_rv h0 (mkR_rat hcn hx h0)]
  unfold bv
  rw [evA_only h, ← nth_getD]
  have := castQ_ne h0
  rw [Rat.intCast_neg]
  grind
theorem narrow_within {d : Int} {b : Bd} {a : At} {v : Nat} (ho : okA d a) (hv : (v : Int) < d) (hb : okB b) (h : only v a) (x : Nat → Rat) (t : Rat) : within (narrow v b a) t ↔ within b t ∧ (nth a.1 v ≠ 0 → Sat (upd x v t) a) := by
  have hvl : v < a.1.length := by have := ho.2; omega
  have hnu := okA_num ho
  have hx := hnu.1 _ (nth_mem hvl)
  have hc := isNum_iff.1 hnu.2.1
  have hcn : isNum (-a.2.1) = true := isNum_iff.2 ⟨by omega, by omega⟩
  unfold narrow
  by_cases h0 : nth a.1 v = 0
  · rw [if_pos h0]
    exact ⟨fun k => ⟨k, fun k2 => absurd h0 k2⟩, fun k => k.1⟩
  rw [if_neg h0]
  have hr := mkR_rat hcn hx h0
  have ebv := bv_only (x := x) ho h h0
  generalize mkR (-a.2.1) (nth a.1 v) = r at hr ebv ⊢
  by_cases hp : 0 < nth a.1 v
  · rw [if_pos hp]
    have es := sat_up (x := x) (v := v) (a := a) (by rw [← nth_getD]; exact hp) t
    rw [ebv] at es
    simp only [ne_eq, h0, not_false_eq_true, true_implies, es]
    by_cases hh : b.hh = true
    · have hi := hb.1 hh
      have c1 := cmpR_lt hr hi
      have c2 := cmpR_eq hr hi
      simp only [c1, c2]
      split
      · rename_i hc
        have hc := hc.resolve_left (by rw [hh]; simp [-Bool.exists_bool, -Int.not_le, -Int.not_lt, -getElem?_pos, -List.getD_eq_getElem?_getD])
        unfold within
        simp only [hh, true_implies]
        constructor
        · rintro ⟨k1, k2⟩
          refine ⟨⟨k1, belowU_mono (m := (rv r, a.2.2)) ?_ k2⟩, k2⟩
          rcases hc with hc | ⟨hc, hs⟩
          · exact .inl hc
          · exact .inr ⟨hc.symm, fun _ => hs⟩
        · rintro ⟨⟨k1, _⟩, k2⟩
          exact ⟨k1, k2⟩
      · rename_i hc
        unfold within
        simp only [hh, true_implies]
        constructor
        · rintro ⟨k1, k2⟩
          refine ⟨⟨k1, k2⟩, belowU_mono (m := (rv b.hi, b.hop)) ?_ k2⟩
          have n1 : ¬ rv r < rv b.hi := fun k => hc (.inr (.inl k))
          by_cases e : rv r = rv b.hi
          · exact .inr ⟨e, fun k => absurd (.inr (.inr ⟨e, k⟩)) hc⟩
          · left; show rv b.hi < rv r; grind
        · exact fun k => k.1
    · rw [if_pos (.inl (by simpa [-Bool.exists_bool, -Int.not_le, -Int.not_lt, -getElem?_pos, -List.getD_eq_getElem?_getD] using hh))]
      unfold within
      simp only [true_implies]
      constructor
      · rintro ⟨k1, k2⟩
        exact ⟨⟨k1, fun k => absurd k hh⟩, k2⟩
      · rintro ⟨⟨k1, _⟩, k2⟩
        exact ⟨k1, k2⟩
  · rw [if_neg hp]
    have es := sat_lo (x := x) (v := v) (a := a) (by rw [← nth_getD]; omega) t
    rw [ebv] at es
    simp only [ne_eq, h0, not_false_eq_true, true_implies, es]
    by_cases hh : b.hl = true
    · have hi := hb.2 hh
      have c1 := cmpR_gt hr hi
      have c2 := cmpR_eq hr hi
      simp only [c1, c2]
      split
      · rename_i hc
        have hc := hc.resolve_left (by rw [hh]; simp [-Bool.exists_bool, -Int.not_le, -Int.not_lt, -getElem?_pos, -List.getD_eq_getElem?_getD])
        unfold within
        simp only [hh, true_implies]
        constructor
        · rintro ⟨k1, k2⟩
          refine ⟨⟨aboveL_mono (m := (rv r, a.2.2)) ?_ k1, k2⟩, k1⟩
          rcases hc with hc | ⟨hc, hs⟩
          · exact .inl hc
          · exact .inr ⟨hc.symm, fun _ => hs⟩
        · rintro ⟨⟨_, k1⟩, k2⟩
          exact ⟨k2, k1⟩
      · rename_i hc
        unfold within
        simp only [hh, true_implies]
        constructor
        · rintro ⟨k1, k2⟩
          refine ⟨⟨k1, k2⟩, aboveL_mono (m := (rv b.lo, b.lop)) ?_ k1⟩
          have n1 : ¬ rv b.lo < rv r := fun k => hc (.inr (.inl k))
          by_cases e : rv r = rv b.lo
          · exact .inr ⟨e, fun k => absurd (.inr (.inr ⟨e, k⟩)) hc⟩
          · left; show rv r < rv b.lo; grind
        · exact fun k => k.1
    · rw [if_pos (.inl (by simpa [-Bool.exists_bool, -Int.not_le, -Int.not_lt, -getElem?_pos, -List.getD_eq_getElem?_getD] using hh))]
      unfold within
      simp only [true_implies]
      constructor
      · rintro ⟨k1, k2⟩
        exact ⟨⟨fun k => absurd k hh, k2⟩, k1⟩
      · rintro ⟨⟨_, k1⟩, k2⟩
        exact ⟨k2, k1⟩
theorem within_end {b : Bd} {t : Rat} (hb : okB b) (h : within b t) : endB b = b := by
  unfold endB
  rw [if_neg]
  rintro ⟨h1, h2, h3⟩
  have q1 := hb.1 h2
  have q2 := hb.2 h1
  rw [cmpR_gt q2 q1, cmpR_eq q2 q1] at h3
  have k1 := h.1 h1
  have k2 := h.2 h2
  unfold aboveL at k1
  unfold belowU at k2
  dsimp only at k1 k2
  rcases h3 with h3 | ⟨h3, h4⟩
  · rcases k1 with k1 | k1 <;> rcases k2 with k2 | k2 <;> grind
  · rcases k1 with k1 | k1 <;> rcases k2 with k2 | k2
    · grind
    · grind
    · grind
    · rw [k1.2, k2.2] at h4; simp [-Bool.exists_bool, -Int.not_le, -Int.not_lt, -getElem?_pos, -List.getD_eq_getElem?_getD] at h4
theorem narrows_within {d : Int} {v : Nat} (hv : (v : Int) < d) (x : Nat → Rat) (t : Rat) : ∀ (L : List At) (b : Bd), allOk d L → (∀ a ∈ L, only v a) → okB b → (okB (narrows v b L) ∧ (within (narrows v b L) t ↔ within b t ∧ ∀ a ∈ L, nth a.1 v ≠ 0 → Sat (upd x v t) a))
  | [], b, _, _, hb => ⟨hb, by simp [-Bool.exists_bool, -Int.not_le, -Int.not_lt, -getElem?_pos, -List.getD_eq_getElem?_getD, narrows]⟩
  | a :: L, b, hL, ho, hb => by
    have h1 := hL a (by simp [-Bool.exists_bool, -Int.not_le, -Int.not_lt, -getElem?_pos, -List.getD_eq_getElem?_getD])
    have := narrows_within hv x t L (narrow v b a) (fun y hy => hL y (by simp [-Bool.exists_bool, -Int.not_le, -Int.not_lt, -getElem?_pos, -List.getD_eq_getElem?_getD, hy])) (fun y hy => ho y (by simp [-Bool.exists_bool, -Int.not_le, -Int.not_lt, -getElem?_pos, -List.getD_eq_getElem?_getD, hy])) (narrow_ok h1 hv hb)
    refine ⟨this.1, ?_⟩
    rw [narrows, this.2, narrow_within h1 hv hb (ho a (by simp [-Bool.exists_bool, -Int.not_le, -Int.not_lt, -getElem?_pos, -List.getD_eq_getElem?_getD])) x t]
    constructor
    · rintro ⟨⟨k1, k2⟩, k3⟩
      refine ⟨k1, fun y hy => ?_⟩
      rcases List.mem_cons.1 hy with rfl | hy
      · exact k2
      · exact k3 y hy
    · rintro ⟨k1, k2⟩
      exact ⟨⟨k1, k2 a (by simp [-Bool.exists_bool, -Int.not_le, -Int.not_lt, -getElem?_pos, -List.getD_eq_getElem?_getD])⟩, fun y hy => k2 y (by simp [-Bool.exists_bool, -Int.not_le, -Int.not_lt, -getElem?_pos, -List.getD_eq_getElem?_getD, hy])⟩
theorem truA_sat {x : Nat → Rat} {a : At} (h0 : gcdL a.1 = 0) : truA a = true ↔ Sat x a := by
  unfold Sat
  rw [evA_const h0]
  unfold truA
  constructor
  · intro h
    simp only [Bool.not_eq_true', Bool.or_eq_false_iff, decide_eq_false_iff_not] at h
    by_cases h1 : a.2.1 = 0
    · right
      refine ⟨by rw [h1]; rfl, ?_⟩
      simpa [-Bool.exists_bool, -Int.not_le, -Int.not_lt, -getElem?_pos, -List.getD_eq_getElem?_getD, h1] using h.2
    · left
      have : a.2.1 < 0 := by omega
      exact_mod_cast this
  · rintro (h | ⟨h, hs⟩)
    · have h : a.2.1 < 0 := by exact_mod_cast h
      have e1 : ¬ 0 < a.2.1 := by omega
      have e2 : ¬ a.2.1 = 0 := by omega
      simp [-Bool.exists_bool, -Int.not_le, -Int.not_lt, -getElem?_pos, -List.getD_eq_getElem?_getD, e1, e2]
    · have h : a.2.1 = 0 := by exact_mod_cast h
      simp [-Bool.exists_bool, -Int.not_le, -Int.not_lt, -getElem?_pos, -List.getD_eq_getElem?_getD, h, hs]
theorem only_gcd {v : Nat} {a : At} (h : only v a) : gcdL a.1 = 0 ↔ nth a.1 v = 0 := by
  rw [gcdL_zero]
  constructor
  · intro h
    by_cases hv : v < a.1.length
    · exact h _ (nth_mem hv)
    · rw [nth_getD, List.getD_eq_getElem?_getD, List.getElem?_eq_none (by omega)]; rfl
  · intro h0 n hn
    obtain ⟨i, hi, rfl⟩ := List.mem_iff_getElem.1 hn
    by_cases e : i = v
    · subst e; rw [nth_eq hi] at h0; exact h0
    · have := h i e
      rwa [getD_of_lt hi] at this
theorem bnds_same {d : Int} {v : Nat} (hv : (v : Int) < d) (x : Nat → Rat) (t : Rat) : ∀ (L : List At) (b : Bd), allOk d L → (∀ a ∈ L, only v a) → okB b → within b t → SatL (upd x v t) L → bndsS v b L = narrows v b L
  | [], b, _, _, hb, hw, _ => within_end hb hw
  | a :: L, b, hL, ho, hb, hw, hs => by
    have h1 := hL a (by simp [-Bool.exists_bool, -Int.not_le, -Int.not_lt, -getElem?_pos, -List.getD_eq_getElem?_getD])
    have ha := hs a (by simp [-Bool.exists_bool, -Int.not_le, -Int.not_lt, -getElem?_pos, -List.getD_eq_getElem?_getD])
    have w2 := (narrow_within h1 hv hb (ho a (by simp [-Bool.exists_bool, -Int.not_le, -Int.not_lt, -getElem?_pos, -List.getD_eq_getElem?_getD])) x t).2 ⟨hw, fun _ => ha⟩
    have ih := bnds_same hv x t L (narrow v b a) (fun y hy => hL y (by simp [-Bool.exists_bool, -Int.not_le, -Int.not_lt, -getElem?_pos, -List.getD_eq_getElem?_getD, hy])) (fun y hy => ho y (by simp [-Bool.exists_bool, -Int.not_le, -Int.not_lt, -getElem?_pos, -List.getD_eq_getElem?_getD, hy])) (narrow_ok h1 hv hb) w2 (fun y hy => hs y (by simp [-Bool.exists_bool, -Int.not_le, -Int.not_lt, -getElem?_pos, -List.getD_eq_getElem?_getD, hy]))
    rw [bndsS, narrows]
    by_cases h0 : gcdL a.1 = 0
    · rw [if_pos h0, if_pos ((truA_sat h0).2 ha)]
      have e : narrow v b a = b := by unfold narrow; rw [if_pos ((only_gcd (ho a (by simp [-Bool.exists_bool, -Int.not_le, -Int.not_lt, -getElem?_pos, -List.getD_eq_getElem?_getD]))).1 h0)]
      rw [e] at ih ⊢
      exact ih
    · rw [if_neg h0]; exact ih
def sumR (a b : Int × Int) : Int × Int := if isRat a.1 a.2 = true ∧ isRat b.1 b.2 = true then mkR (a.1 * b.2 + b.1 * a.2) (a.2 * b.2) else (0, 0)
def prdR (a b : Int × Int) : Int × Int := if isRat a.1 a.2 = true ∧ isRat b.1 b.2 = true then mkR (a.1 * b.1) (a.2 * b.2) else (0, 0)
def chooseR (b : Bd) : Int × Int := if b.hl = true ∧ b.hh = true then prdR (sumR b.lo b.hi) (1, 2) else if b.hl = true then sumR b.lo (1, 1) else if b.hh = true then sumR b.hi (-1, 1) else (0, 1)
theorem sumR_rv {a b : Int × Int} (h : isRat (sumR a b).1 (sumR a b).2 = true) : isRat a.1 a.2 = true ∧ isRat b.1 b.2 = true ∧ rv (sumR a b) = rv a + rv b := by
  unfold sumR at h ⊢
  split at h
  · rename_i hr
    rw [if_pos hr]
    have pa := isRat_den hr.1
    have pb := isRat_den hr.2
    have hbd : ¬ a.2 * b.2 = 0 := Int.mul_ne_zero (by omega) (by omega)
    refine ⟨hr.1, hr.2, ?_⟩
    rw [mkR_rv hbd h]
    have h1 := castQ_ne (show ¬ a.2 = 0 by omega)
    have h2 := castQ_ne (show ¬ b.2 = 0 by omega)
    unfold rv
    simp only [Rat.intCast_add, Rat.intCast_mul]
    grind
  · simp [-Bool.exists_bool, -Int.not_le, -Int.not_lt, -getElem?_pos, -List.getD_eq_getElem?_getD, isRat00] at h
theorem prdR_rv {a b : Int × Int} (h : isRat (prdR a b).1 (prdR a b).2 = true) : isRat a.1 a.2 = true ∧ isRat b.1 b.2 = true ∧ rv (prdR a b) = rv a * rv b := by
  unfold prdR at h ⊢
  split at h
  · rename_i hr
    rw [if_pos hr]
    have pa := isRat_den hr.1
    have pb := isRat_den hr.2
    have hbd : ¬ a.2 * b.2 = 0 := Int.mul_ne_zero (by omega) (by omega)
    refine ⟨hr.1, hr.2, ?_⟩
    rw [mkR_rv hbd h]
    have h1 := castQ_ne (show ¬ a.2 = 0 by omega)
    have h2 := castQ_ne (show ¬ b.2 = 0 by omega)
    unfold rv
    simp only [Rat.intCast_mul]
    grind
  · simp [-Bool.exists_bool, -Int.not_le, -Int.not_lt, -getElem?_pos, -List.getD_eq_getElem?_getD, isRat00] at h
theorem choose_within {b : Bd} {t : Rat} (hw : within b t) (h : isRat (chooseR b).1 (chooseR b).2 = true) : within b (rv (chooseR b)) := by
  unfold chooseR at h ⊢
  by_cases h1 : b.hl = true
  · by_cases h2 : b.hh = true
    · rw [if_pos ⟨h1, h2⟩] at h ⊢
      obtain ⟨q1, _, q3⟩ := prdR_rv h
      obtain ⟨_, _, q6⟩ := sumR_rv q1
      have e : rv (prdR (sumR b.lo b.hi) (1, 2)) = (rv b.lo + rv b.hi) / 2 := by
        rw [q3, q6]
        have : rv (1, 2) = (1 : Rat) / 2 := by unfold rv; rfl
        rw [this]; grind
      rw [e]
      have k1 := hw.1 h1
      have k2 := hw.2 h2
      have hf : fitsLU (rv b.lo, b.lop) (rv b.hi, b.hop) := by
        unfold aboveL at k1
        unfold belowU at k2
        unfold fitsLU
        dsimp only at k1 k2 ⊢
        rcases k1 with k1 | k1 <;> rcases k2 with k2 | k2
        · left; grind
        · left; grind
        · left; grind
        · right; exact ⟨by grind, k1.2, k2.2⟩
      have := mid_fits hf
      exact ⟨fun _ => this.1, fun _ => this.2⟩
    · rw [if_neg (by simp [-Bool.exists_bool, -Int.not_le, -Int.not_lt, -getElem?_pos, -List.getD_eq_getElem?_getD, h2]), if_pos h1] at h ⊢
      obtain ⟨_, _, q3⟩ := sumR_rv h
      have e : rv (1, 1) = (1 : Rat) := by unfold rv; simp [-Bool.exists_bool, -Int.not_le, -Int.not_lt, -getElem?_pos, -List.getD_eq_getElem?_getD]; try grind
      rw [q3, e]
      exact ⟨fun _ => .inl (by show rv b.lo < rv b.lo + 1; grind), fun k => absurd k h2⟩
  · rw [if_neg (by simp [-Bool.exists_bool, -Int.not_le, -Int.not_lt, -getElem?_pos, -List.getD_eq_getElem?_getD, h1]), if_neg h1] at h ⊢
    by_cases h2 : b.hh = true
    · rw [if_pos h2] at h ⊢
      obtain ⟨_, _, q3⟩ := sumR_rv h
      have e : rv (-1, 1) = (-1 : Rat) := by unfold rv; simp [-Bool.exists_bool, -Int.not_le, -Int.not_lt, -getElem?_pos, -List.getD_eq_getElem?_getD]; try grind
      rw [q3, e]
      exact ⟨fun k => absurd k h1, fun _ => .inl (by show rv b.hi + -1 < rv b.hi; grind)⟩
    · exact ⟨fun k => absurd k h1, fun k => absurd k h2⟩
end Go.Proofs.Ytjknjekemolndaa.ZL
namespace Go.Proofs.Ytjknjekemolndaa.ZL
open Go Go.Proofs.Ytjknjekemolndaa.Abs Go.Proofs.Ytjknjekemolndaa.Abs.Pl Go.RowKit Go.Proofs
set_option linter.unusedVariables false
set_option linter.unusedSimpArgs false
theorem upd_comm {x : Nat → Rat} {k v : Nat} (h : k ≠ v) (r t : Rat) : upd (upd x v t) k r = upd (upd x k r) v t := by
  funext j
  unfold upd
  by_cases h1 : j = k
  · by_cases h2 : j = v
    · omega
    · simp [-Bool.exists_bool, -Int.not_le, -Int.not_lt, -getElem?_pos, -List.getD_eq_getElem?_getD, h1, h]
  · by_cases h2 : j = v
    · subst h2; simp [-Bool.exists_bool, -Int.not_le, -Int.not_lt, -getElem?_pos, -List.getD_eq_getElem?_getD, h1]
    · simp [-Bool.exists_bool, -Int.not_le, -Int.not_lt, -getElem?_pos, -List.getD_eq_getElem?_getD, h1, h2]
theorem dt_set0 (x : Nat → Rat) : ∀ (l : List Int) (k v : Nat), dt x k (l.set v 0) = dt x k l - ((l.getD v 0 : Int) : Rat) * x (k + v)
  | [], k, v => by simp [-Bool.exists_bool, -Int.not_le, -Int.not_lt, -getElem?_pos, -List.getD_eq_getElem?_getD, dt]; grind
  | n :: l, k, 0 => by
    simp only [List.set_cons_zero, dt, List.getD_cons_zero, Nat.add_zero]
    simp [-Bool.exists_bool, -Int.not_le, -Int.not_lt, -getElem?_pos, -List.getD_eq_getElem?_getD]
    grind
  | n :: l, k, v + 1 => by
    have := dt_set0 x l (k + 1) v
    have e : k + 1 + v = k + (v + 1) := by omega
    rw [e] at this
    simp only [List.set_cons_succ, dt, List.getD_cons_succ, this]
    grind
theorem fixA_sat {a : At} {v : Nat} {n e : Int} (h : (fixA a v n e).2.2.2 = true) (x : Nat → Rat) : Sat x (at1 (fixA a v n e)) ↔ Sat (upd x v (rv (n, e))) a := by
  unfold fixA at h ⊢
  split at h
  · rename_i hc
    rw [if_pos hc]
    unfold at1
    rw [mkAt_sat h x]
    have he := isRat_den hc.2.1
    have hv : v < a.1.length := by have := hc.2.2; omega
    have key : evA x (fixI a.1 (v : Int).toNat e, a.2.1 * e + nth a.1 (v : Int).toNat * n, a.2.2) = (e : Rat) * evA (upd x v (rv (n, e))) a := by
      rw [evA_upd]
      unfold evA fixI
      have h1 := dt_set0 x (a.1.map (· * e)) 0 v
      rw [Nat.zero_add, dt_mul] at h1
      rw [Int.toNat_natCast, h1]
      have h2 : (a.1.map (· * e)).getD v 0 = a.1.getD v 0 * e := by
        rw [List.getD_eq_getElem?_getD, List.getD_eq_getElem?_getD, List.getElem?_map, List.getElem?_eq_getElem hv]; rfl
      rw [h2, nth_getD]
      have h3 := castQ_ne (show ¬ e = 0 by omega)
      unfold rv
      simp only [Rat.intCast_add, Rat.intCast_mul]
      grind
    have he := castQ_pos he
    unfold Sat
    rw [key, mulQ_neg he, mulQ_zero he]
  · simp [-Bool.exists_bool, -Int.not_le, -Int.not_lt, -getElem?_pos, -List.getD_eq_getElem?_getD, noAt] at h
theorem fixA_noV {a : At} {v w : Nat} {n e : Int} (h : w = v ∨ a.1.getD w 0 = 0) : (at1 (fixA a v n e)).1.getD w 0 = 0 := by
  unfold fixA at1
  split
  · rename_i hc
    refine mkAt_getD ?_
    rw [Int.toNat_natCast]
    by_cases hw : w < a.1.length
    · have := fixI_nth a.1 v e w hw
      rw [nth_getD] at this
      rw [this]
      rcases h with h | h
      · rw [if_pos h]
      · rw [nth_getD, h]; simp [-Bool.exists_bool, -Int.not_le, -Int.not_lt, -getElem?_pos, -List.getD_eq_getElem?_getD]
    · rw [List.getD_eq_getElem?_getD, List.getElem?_eq_none (by rw [fixI_len]; omega)]; rfl
  · simp [-Bool.exists_bool, -Int.not_le, -Int.not_lt, -getElem?_pos, -List.getD_eq_getElem?_getD, noAt]
def updL (x : Nat → Rat) : Nat → List (Int × Int) → Nat → Rat
  | _, [] => x
  | k, q :: p => upd (updL x (k + 1) p) k (rv q)
theorem updL_upd {x : Nat → Rat} {v : Nat} {t : Rat} : ∀ (p : List (Int × Int)) (k : Nat), k + p.length ≤ v → updL (upd x v t) k p = upd (updL x k p) v t
  | [], _, _ => rfl
  | q :: p, k, h => by
    have h : k + (p.length + 1) ≤ v := h
    unfold updL
    rw [updL_upd p (k + 1) (by omega), upd_comm (by omega)]
theorem updL_app {x : Nat → Rat} (q : Int × Int) : ∀ (p : List (Int × Int)) (k : Nat), updL x k (p ++ [q]) = updL (upd x (k + p.length) (rv q)) k p
  | [], _ => rfl
  | r :: p, k => by
    have e : k + 1 + p.length = k + (p.length + 1) := by omega
    simp only [List.cons_append, updL, updL_app q p (k + 1), List.length_cons, e]
abbrev xp (p : List (Int × Int)) : Nat → Rat := updL (fun _ => 0) 0 p
theorem xp_app (p : List (Int × Int)) (q : Int × Int) : xp (p ++ [q]) = upd (xp p) p.length (rv q) := by
  unfold xp
  rw [updL_app, updL_upd _ _ (by omega), Nat.zero_add]
def fixes : Nat → List (Int × Int) → At → Option At
  | _, [], a => some a
  | k, q :: p, a => if (fixA a k q.1 q.2).2.2.2 = true then fixes (k + 1) p (at1 (fixA a k q.1 q.2)) else none
theorem fixes_sat : ∀ {p : List (Int × Int)} {k : Nat} {a b : At}, fixes k p a = some b → ∀ x, Sat x b ↔ Sat (updL x k p) a
  | [], k, a, b, h, x => by obtain rfl := Option.some.inj h; rfl
  | q :: p, k, a, b, h, x => by
    unfold fixes at h
    split at h
    · rename_i hf
      rw [fixes_sat h x, fixA_sat hf]
      rfl
    · cases h
theorem fixes_ok {d : Int} : ∀ {p : List (Int × Int)} {k : Nat} {a b : At}, okA d a → fixes k p a = some b → okA d b
  | [], k, a, b, ho, h => by obtain rfl := Option.some.inj h; exact ho
  | q :: p, k, a, b, ho, h => by
    unfold fixes at h
    split at h
    · rename_i hf
      exact fixes_ok (fixA_ok ho hf) h
    · cases h
theorem fixes_noV {w : Nat} : ∀ {p : List (Int × Int)} {k : Nat} {a b : At}, ((k ≤ w ∧ w < k + p.length) ∨ a.1.getD w 0 = 0) → fixes k p a = some b → b.1.getD w 0 = 0
  | [], k, a, b, hw, h => by
    obtain rfl := Option.some.inj h
    exact hw.resolve_left (by simp [-Bool.exists_bool, -Int.not_le, -Int.not_lt, -getElem?_pos, -List.getD_eq_getElem?_getD])
  | q :: p, k, a, b, hw, h => by
    unfold fixes at h
    split at h
    · rename_i hf
      refine fixes_noV ?_ h
      have hw : (k ≤ w ∧ w < k + (p.length + 1)) ∨ a.1.getD w 0 = 0 := hw
      rcases hw with hw | hw
      · by_cases e : w = k
        · exact .inr (fixA_noV (.inl e))
        · exact .inl (by omega)
      · exact .inr (fixA_noV (.inr hw))
    · cases h
def mapO (f : At → Option At) : List At → Option (List At)
  | [] => some []
  | a :: L => match f a with
    | none => none
    | some b => (mapO f L).map (b :: ·)
theorem mapO_comp (f g : At → Option At) : ∀ L : List At, mapO (fun a => (f a).bind g) L = (mapO f L).bind (mapO g)
  | [] => rfl
  | a :: L => by
    have ih := mapO_comp f g L
    unfold mapO
    rw [ih]
    cases h1 : f a with
    | none => simp [-Bool.exists_bool, -Int.not_le, -Int.not_lt, -getElem?_pos, -List.getD_eq_getElem?_getD]
    | some b =>
      simp only [Option.bind_some]
      cases h2 : mapO f L with
      | none => cases g b <;> simp [-Bool.exists_bool, -Int.not_le, -Int.not_lt, -getElem?_pos, -List.getD_eq_getElem?_getD]
      | some M => simp [-Bool.exists_bool, -Int.not_le, -Int.not_lt, -getElem?_pos, -List.getD_eq_getElem?_getD, mapO]
theorem mapO_id : ∀ L : List At, mapO some L = some L
  | [] => rfl
  | a :: L => by simp [-Bool.exists_bool, -Int.not_le, -Int.not_lt, -getElem?_pos, -List.getD_eq_getElem?_getD, mapO, mapO_id L]
theorem mapO_mem {f : At → Option At} : ∀ {L M : List At}, mapO f L = some M → M.length = L.length ∧ (∀ b ∈ M, ∃ a ∈ L, f a = some b) ∧ ∀ a ∈ L, ∃ b ∈ M, f a = some b
  | [], M, h => by obtain rfl := Option.some.inj h; simp [-Bool.exists_bool, -Int.not_le, -Int.not_lt, -getElem?_pos, -List.getD_eq_getElem?_getD]
  | a :: L, M, h => by
    unfold mapO at h
    cases h1 : f a with
    | none => rw [h1] at h; cases h
    | some b =>
      rw [h1] at h
      obtain ⟨N, h2, rfl⟩ := Option.map_eq_some_iff.1 h
      obtain ⟨i0, i1, i2⟩ := mapO_mem h2
      refine ⟨by simp [-Bool.exists_bool, -Int.not_le, -Int.not_lt, -getElem?_pos, -List.getD_eq_getElem?_getD, i0], fun c hc => ?_, fun c hc => ?_⟩
      · rcases List.mem_cons.1 hc with rfl | hc
        · exact ⟨a, by simp [-Bool.exists_bool, -Int.not_le, -Int.not_lt, -getElem?_pos, -List.getD_eq_getElem?_getD], h1⟩
        · obtain ⟨y, hy, k⟩ := i1 c hc
          exact ⟨y, by simp [-Bool.exists_bool, -Int.not_le, -Int.not_lt, -getElem?_pos, -List.getD_eq_getElem?_getD, hy], k⟩
      · rcases List.mem_cons.1 hc with rfl | hc
        · exact ⟨b, by simp [-Bool.exists_bool, -Int.not_le, -Int.not_lt, -getElem?_pos, -List.getD_eq_getElem?_getD], h1⟩
        · obtain ⟨y, hy, k⟩ := i2 c hc
          exact ⟨y, by simp [-Bool.exists_bool, -Int.not_le, -Int.not_lt, -getElem?_pos, -List.getD_eq_getElem?_getD, hy], k⟩
structure Chn (d : Int) (n : Nat) (Z : List Ce) : Prop where
  len : Z.length = n + 1
  dim : ∀ k, k ≤ n → (nth Z k).1 = d
  l16 : ∀ k, k ≤ n → (nth Z k).2.length ≤ 16
  ok : ∀ k, k ≤ n → allOk d (nth Z k).2
  no : ∀ k, k ≤ n → ∀ w, k ≤ w → noV w (nth Z k).2
  flag : ∀ k, k < n → (dropC d k (nth Z (k + 1)).2).2.2 = true
  step : ∀ k, k < n → (nth Z k).2 = (dropC d k (nth Z (k + 1)).2).2.1
theorem chain_ok {d : Int} (hd : 0 ≤ d ∧ d ≤ 4) : ∀ {n : Nat} {L : List At} {Z : List Ce}, L.length ≤ 16 → allOk d L → (∀ w, n ≤ w → noV w L) → chain d n L = some Z → Chn d n Z ∧ nth Z n = (d, L)
  | 0, L, Z, h16, hL, hno, h => by
    unfold chain at h
    obtain rfl := Option.some.inj h
    refine ⟨⟨rfl, ?_, ?_, ?_, ?_, ?_, ?_⟩, rfl⟩
    · intro k hk; obtain rfl : k = 0 := by omega
      rfl
    · intro k hk; obtain rfl : k = 0 := by omega
      exact h16
    · intro k hk; obtain rfl : k = 0 := by omega
      exact hL
    · intro k hk w hw; obtain rfl : k = 0 := by omega
      exact hno w hw
    · intro k hk; omega
    · intro k hk; omega
  | n + 1, L, Z, h16, hL, hno, h => by
    unfold chain at h
    split at h
    · rename_i hf
      obtain ⟨W, hW, rfl⟩ := Option.map_eq_some_iff.1 h
      have ok := dropC_ok hd n h16 hL hf
      obtain ⟨c, e⟩ := chain_ok hd ok.2.1 ok.2.2 (fun w hw => dropC_noV hL hf (by
        by_cases hwn : w = n
        · exact .inl hwn
        · exact .inr (hno w (by omega)))) hW
      have old : ∀ k, k ≤ n → nth (W ++ [(d, L)]) k = nth W k := fun k hk => nth_app (by rw [c.len]; omega)
      have new : nth (W ++ [(d, L)]) (n + 1) = (d, L) := by have := nth_last W (d, L); rwa [c.len] at this
      refine ⟨⟨by simp [-Bool.exists_bool, -Int.not_le, -Int.not_lt, -getElem?_pos, -List.getD_eq_getElem?_getD, c.len], ?_, ?_, ?_, ?_, ?_, ?_⟩, new⟩
      · intro k hk
        by_cases hk2 : k ≤ n
        · rw [old k hk2]; exact c.dim k hk2
        · obtain rfl : k = n + 1 := by omega
          rw [new]
      · intro k hk
        by_cases hk2 : k ≤ n
        · rw [old k hk2]; exact c.l16 k hk2
        · obtain rfl : k = n + 1 := by omega
          rw [new]; exact h16
      · intro k hk
        by_cases hk2 : k ≤ n
        · rw [old k hk2]; exact c.ok k hk2
        · obtain rfl : k = n + 1 := by omega
          rw [new]; exact hL
      · intro k hk w hw
        by_cases hk2 : k ≤ n
        · rw [old k hk2]; exact c.no k hk2 w hw
        · obtain rfl : k = n + 1 := by omega
          rw [new]; exact hno w hw
      · intro k hk
        by_cases hk2 : k < n
        · rw [old (k + 1) (by omega)]; exact c.flag k hk2
        · obtain rfl : k = n := by omega
          rw [new]; exact hf
      · intro k hk
        by_cases hk2 : k < n
        · rw [old k (by omega), old (k + 1) (by omega)]; exact c.step k hk2
        · obtain rfl : k = n := by omega
          rw [old k (by omega), new, e]
    · cases h
def witGo (f : Nat → List At → Bd) (Z : List Ce) : Nat → List (Int × Int) → Option (List (Int × Int))
  | 0, p => some p
  | m + 1, p => match mapO (fixes 0 p) (nth Z (p.length + 1)).2 with
    | none => none
    | some M => if isRat (chooseR (f p.length M)).1 (chooseR (f p.length M)).2 = true then witGo f Z m (p ++ [chooseR (f p.length M)]) else none
abbrev bI (v : Nat) (M : List At) : Bd := narrows v bd0 M
abbrev bS (v : Nat) (M : List At) : Bd := bndsS v bd0 M
def witD (d : Int) (L : List At) : List (Int × Int) × Int := match projs d L with
  | none => ([], 2)
  | some Z => if 0 < (nth Z 0).2.length then ([], 1) else match witGo bI Z d.toNat [] with
    | none => ([], 2)
    | some p => (p, 0)
theorem okB0 : okB bd0 := ⟨fun h => by simp [-Bool.exists_bool, -Int.not_le, -Int.not_lt, -getElem?_pos, -List.getD_eq_getElem?_getD, bd0] at h, fun h => by simp [-Bool.exists_bool, -Int.not_le, -Int.not_lt, -getElem?_pos, -List.getD_eq_getElem?_getD, bd0] at h⟩
theorem within0 (t : Rat) : within bd0 t := ⟨fun h => by simp [-Bool.exists_bool, -Int.not_le, -Int.not_lt, -getElem?_pos, -List.getD_eq_getElem?_getD, bd0] at h, fun h => by simp [-Bool.exists_bool, -Int.not_le, -Int.not_lt, -getElem?_pos, -List.getD_eq_getElem?_getD, bd0] at h⟩
theorem wit_step {d : Int} {n v : Nat} (hn : n = d.toNat) (hd : 0 ≤ d ∧ d ≤ 4) {Z : List Ce} (c : Chn d n Z) (hv : v < n) {p : List (Int × Int)} (hp : p.length = v) (hs : SatL (xp p) (nth Z v).2) {M : List At} (hM : mapO (fixes 0 p) (nth Z (v + 1)).2 = some M) :
    (M.length ≤ 16 ∧ allOk d M) ∧ bS v M = bI v M ∧ (isRat (chooseR (bI v M)).1 (chooseR (bI v M)).2 = true → SatL (xp (p ++ [chooseR (bI v M)])) (nth Z (v + 1)).2) := by
  have hvd : (v : Int) < d := by omega
  obtain ⟨m0, m1, m2⟩ := mapO_mem hM
  have hR := c.ok (v + 1) hv
  have ok : allOk d M := fun b hb => by
    obtain ⟨a, ha, k⟩ := m1 b hb
    exact fixes_ok (hR a ha) k
  have on : ∀ b ∈ M, only v b := fun b hb w hw => by
    obtain ⟨a, ha, k⟩ := m1 b hb
    refine fixes_noV ?_ k
    by_cases h1 : w < v
    · exact .inl ⟨Nat.zero_le _, by omega⟩
    · exact .inr (c.no (v + 1) hv w (by omega) a ha)
  rw [c.step v hv, dropC_sat hR (c.flag v hv)] at hs
  obtain ⟨t, ht⟩ := hs
  have key : ∀ t, ∀ a ∈ (nth Z (v + 1)).2, ∀ b, fixes 0 p a = some b → (Sat (upd (fun _ => 0) v t) b ↔ Sat (upd (xp p) v t) a) := fun t a ha b k => by
    rw [fixes_sat k, updL_upd _ _ (by omega)]
  have hsM : SatL (upd (fun _ => 0) v t) M := fun b hb => by
    obtain ⟨a, ha, k⟩ := m1 b hb
    exact (key t a ha b k).2 (ht a ha)
  have nw := narrows_within hvd (fun _ => 0) t M bd0 ok on okB0
  have w1 : within (narrows v bd0 M) t := nw.2.2 ⟨within0 t, fun a ha _ => hsM a ha⟩
  refine ⟨⟨by rw [m0]; exact c.l16 (v + 1) hv, ok⟩, bnds_same hvd (fun _ => 0) t M bd0 ok on okB0 (within0 t) hsM, fun hr => ?_⟩
  have w2 := choose_within w1 hr
  rw [xp_app, hp]
  intro a ha
  obtain ⟨b, hb, k⟩ := m2 a ha
  rw [← key _ a ha b k]
  by_cases h0 : nth b.1 v = 0
  · have hz : b.1.getD v 0 = 0 := h0
    rw [sat_no hz, ← sat_no hz t]
    exact hsM b hb
  · have nw2 := narrows_within hvd (fun _ => 0) (rv (chooseR (bI v M))) M bd0 ok on okB0
    exact (nw2.2.1 w2).2 b hb h0
theorem wit_same {d : Int} {n : Nat} (hn : n = d.toNat) (hd : 0 ≤ d ∧ d ≤ 4) {Z : List Ce} (c : Chn d n Z) : ∀ (m : Nat) (p : List (Int × Int)), p.length + m = n → (∀ r ∈ p, isRat r.1 r.2 = true) → SatL (xp p) (nth Z p.length).2 →
    witGo bS Z m p = witGo bI Z m p ∧ ∀ q, witGo bI Z m p = some q → q.length = n ∧ (∀ r ∈ q, isRat r.1 r.2 = true) ∧ SatL (xp q) (nth Z n).2
  | 0, p, hp, hr, hs => by
    refine ⟨rfl, fun q hq => ?_⟩
    obtain rfl := Option.some.inj hq
    have : p.length = n := by omega
    exact ⟨this, hr, by rw [← this]; exact hs⟩
  | m + 1, p, hp, hr, hs => by
    unfold witGo
    cases hM : mapO (fixes 0 p) (nth Z (p.length + 1)).2 with
    | none => exact ⟨rfl, fun q hq => by cases hq⟩
    | some M =>
      obtain ⟨_, h1, h2⟩ := wit_step hn hd c (by omega) rfl hs hM
      dsimp only
      rw [h1]
      split
      · rename_i hq
        exact wit_same hn hd c m _ (by simp [-Bool.exists_bool, -Int.not_le, -Int.not_lt, -getElem?_pos, -List.getD_eq_getElem?_getD]; omega) (fun r h => by
          rcases List.mem_append.1 h with h | h
          · exact hr r h
          · rw [List.mem_singleton.1 h]; exact hq) (by rw [List.length_append]; exact h2 hq)
      · exact ⟨rfl, fun q hq => by cases hq⟩
theorem projs_ok {d : Int} {L : List At} {Z : List Ce} (h : projs d L = some Z) : isCe d L = true ∧ Chn d d.toNat Z ∧ nth Z d.toNat = (d, nrm d L) := by
  unfold projs at h
  split at h
  · rename_i hc
    have hd := isCe_d hc
    have hL := isCe_a hc
    refine ⟨hc, chain_ok hd (nrm_16 d L (isCe_l hc)) (nrm_ok hd hL) (fun w hw => nrm_noV hL fun a ha => ?_) h⟩
    have := (hL a ha).2
    rw [List.getD_eq_getElem?_getD, List.getElem?_eq_none (by omega)]; rfl
  · cases h
theorem witD_found {d : Int} {L : List At} (h : (witD d L).2 = 0) : isCe d L = true ∧ ((witD d L).1.length : Int) = d ∧ (∀ r ∈ (witD d L).1, isRat r.1 r.2 = true) ∧ SatL (xp (witD d L).1) L := by
  unfold witD at h ⊢
  cases hZ : projs d L with
  | none => rw [hZ] at h; cases h
  | some Z =>
    rw [hZ] at h
    obtain ⟨hc, c, e⟩ := projs_ok hZ
    have hd := isCe_d hc
    dsimp only at h ⊢
    split at h
    · cases h
    · rename_i h0
      rw [if_neg h0]
      have hs0 : SatL (xp []) (nth Z 0).2 := fun a ha => by
        have : (nth Z 0).2 = [] := List.eq_nil_of_length_eq_zero (by omega)
        rw [this] at ha; cases ha
      cases hq : witGo bI Z d.toNat [] with
      | none => rw [hq] at h; cases h
      | some q =>
        obtain ⟨_, k⟩ := wit_same rfl hd c d.toNat [] (by simp [-Bool.exists_bool, -Int.not_le, -Int.not_lt, -getElem?_pos, -List.getD_eq_getElem?_getD]) (by simp [-Bool.exists_bool, -Int.not_le, -Int.not_lt, -getElem?_pos, -List.getD_eq_getElem?_getD]) hs0
        obtain ⟨k1, k2, k3⟩ := k q hq
        refine ⟨hc, by dsimp only; omega, k2, ?_⟩
        rw [e] at k3
        exact (nrm_sat (isCe_a hc) _).1 k3
end Go.Proofs.Ytjknjekemolndaa.ZL
namespace Go.Proofs.Ytjknjekemolndaa.ZL
open Go Go.Proofs.Ytjknjekemolndaa.Abs Go.Proofs.Ytjknjekemolndaa.Abs.Pl Go.RowKit Go.Proofs
set_option linter.unusedVariables false
set_option linter.unusedSimpArgs false
set_option maxRecDepth 100000
abbrev Rp (r : Int × Int) : V := Ra r.1 r.2
theorem rat_den2 {n d n' d' : Int} (h : isRat n d = true) (h' : isRat n' d' = true) : 1 ≤ d * d' ∧ d * d' ≤ 160000000000000000 := by
  have q := isRat_iff.1 h
  have q' := isRat_iff.1 h'
  have := mul_bd (x := d) (y := d') (isNum_iff.2 ⟨by omega, by omega⟩) ⟨by omega, by omega⟩
  have := Int.mul_pos (show 0 < d by omega) (show 0 < d' by omega)
  omega
theorem rat_num2 {n d n' d' : Int} (h : isRat n d = true) (h' : isRat n' d' = true) : -160000000000000000 ≤ n * n' ∧ n * n' ≤ 160000000000000000 := by
  have q := isRat_iff.1 h
  have q' := isRat_iff.1 h'
  exact mul_bd (isNum_iff.2 ⟨by omega, by omega⟩) ⟨by omega, by omega⟩
end Go.Proofs.Ytjknjekemolndaa.ZL
