/- Texts of the abs road (plain values, what code does to them, and the contracts of the functions that the law reaches). No condition. -/
import Derived.Test.YtjknjekemolndaaGreatG6FnExactNeatRegion
import Derived.Shelf.SlSortCmp.WholeK
import Derived.Shelf.SlSortCmp.NoneTotal
import Derived.Test.YtjknjekemolndaaGreatProg
namespace Go.Proofs
open Go.Shelf
def Tryz.sortL_ren : Go.Shelf.Ren := ⟨fun | 6 => 108 | 15 => 151 | 14 => 150 | 28 => 176 | 29 => 177 | 20 => 168 | 21 => 169 | 22 => 170 | 23 => 171 | 24 => 172 | 25 => 173 | 26 => 174 | 27 => 175 | 46 => 182 | 47 => 183 | 48 => 184 | 49 => 185 | 50 => 186 | 57 => 190 | n => n, fun | 22 => 24 | 24 => 66 | 25 => 120 | 3 => 3 | 39 => 149 | 0 => 0 | 53 => 167 | 55 => 169 | 4 => 4 | 46 => 160 | 45 => 159 | 50 => 164 | 5 => 5 | 9 => 9 | 66 => 173 | 70 => 177 | 76 => 180 | 77 => 181 | n => n, fun | n => n⟩
theorem Tryz.sortL : Go.Proofs.SlLaysF0.n6 Tryz.prog Tryz.sortL_ren := {
  mixed := by kernel_rfl
  f6 := ⟨Tryz.f108.name, by decide, Tryz.func108.trans (congrArg some (by kernel_rfl))⟩
  f14 := ⟨Tryz.f150.name, by decide, Tryz.func150.trans (congrArg some (by kernel_rfl))⟩
  f15 := Tryz.func151.trans (congrArg some (by kernel_rfl))
  f20 := ⟨Tryz.f168.name, by decide, Tryz.func168.trans (congrArg some (by kernel_rfl))⟩
  f21 := ⟨Tryz.f169.name, by decide, Tryz.func169.trans (congrArg some (by kernel_rfl))⟩
  f22 := ⟨Tryz.f170.name, by decide, Tryz.func170.trans (congrArg some (by kernel_rfl))⟩
  f23 := ⟨Tryz.f171.name, by decide, Tryz.func171.trans (congrArg some (by kernel_rfl))⟩
  f24 := ⟨Tryz.f172.name, by decide, Tryz.func172.trans (congrArg some (by kernel_rfl))⟩
  f25 := ⟨Tryz.f173.name, by decide, Tryz.func173.trans (congrArg some (by kernel_rfl))⟩
  f26 := ⟨Tryz.f174.name, by decide, Tryz.func174.trans (congrArg some (by kernel_rfl))⟩
  f27 := ⟨Tryz.f175.name, by decide, Tryz.func175.trans (congrArg some (by kernel_rfl))⟩
  f28 := Tryz.func176.trans (congrArg some (by kernel_rfl))
  f29 := Tryz.func177.trans (congrArg some (by kernel_rfl))
  f46 := ⟨Tryz.f182.name, by decide, Tryz.func182.trans (congrArg some (by kernel_rfl))⟩
  f47 := Tryz.func183.trans (congrArg some (by kernel_rfl))
  f48 := Tryz.func184.trans (congrArg some (by kernel_rfl))
  f49 := ⟨Tryz.f185.name, by decide, Tryz.func185.trans (congrArg some (by kernel_rfl))⟩
  f50 := ⟨Tryz.f186.name, by decide, Tryz.func186.trans (congrArg some (by kernel_rfl))⟩
  f57 := ⟨Tryz.f190.name, by decide, Tryz.func190.trans (congrArg some (by kernel_rfl))⟩
  t0 := Tryz.underlying0
  a0 := Tryz.isAgg0
  z0 := Tryz.sizeOf0
  v0 := Tryz.zeroValue0
  t3 := Tryz.underlying3
  a3 := Tryz.isAgg3
  z3 := Tryz.sizeOf3
  v3 := Tryz.zeroValue3
  t4 := Tryz.underlying4
  a4 := Tryz.isAgg4
  z4 := Tryz.sizeOf4
  v4 := Tryz.zeroValue4
  t5 := Tryz.underlying5
  a5 := Tryz.isAgg5
  z5 := Tryz.sizeOf5
  v5 := Tryz.zeroValue5
  t9 := Tryz.underlying9
  a9 := Tryz.isAgg9
  z9 := Tryz.sizeOf9
  v9 := Tryz.zeroValue9
  t22 := Tryz.underlying24
  a22 := Tryz.isAgg24
  z22 := Tryz.sizeOf24
  v22 := Tryz.zeroValue24
  t25 := Tryz.underlying120
  a25 := Tryz.isAgg120
  z25 := Tryz.sizeOf120
  v25 := Tryz.zeroValue120
  t39 := Tryz.underlying149
  a39 := Tryz.isAgg149
  z39 := Tryz.sizeOf149
  v39 := Tryz.zeroValue149
  t45 := Tryz.underlying159
  a45 := Tryz.isAgg159
  z45 := Tryz.sizeOf159
  v45 := Tryz.zeroValue159
  t46 := Tryz.underlying160
  a46 := Tryz.isAgg160
  z46 := Tryz.sizeOf160
  v46 := Tryz.zeroValue160
  t50 := Tryz.underlying164
  a50 := Tryz.isAgg164
  z50 := Tryz.sizeOf164
  v50 := Tryz.zeroValue164
  t53 := Tryz.underlying167
  a53 := Tryz.isAgg167
  z53 := Tryz.sizeOf167
  v53 := Tryz.zeroValue167
  t55 := Tryz.underlying169
  a55 := Tryz.isAgg169
  z55 := Tryz.sizeOf169
  v55 := Tryz.zeroValue169
  t66 := Tryz.underlying173
  a66 := Tryz.isAgg173
  z66 := Tryz.sizeOf173
  v66 := Tryz.zeroValue173
  t70 := Tryz.underlying177
  a70 := Tryz.isAgg177
  z70 := Tryz.sizeOf177
  v70 := Tryz.zeroValue177
  t76 := Tryz.underlying180
  a76 := Tryz.isAgg180
  z76 := Tryz.sizeOf180
  v76 := Tryz.zeroValue180
  t77 := Tryz.underlying181
  a77 := Tryz.isAgg181
  z77 := Tryz.sizeOf181
  v77 := Tryz.zeroValue181 }
end Go.Proofs
namespace Go.Proofs.YtjknjekemolndaaGreat.ZL
open Go Go.Proofs.YtjknjekemolndaaGreat.Abs Go.Proofs.YtjknjekemolndaaGreat.Abs.Pl Go.RowKit Go.Proofs
set_option linter.unusedVariables false
set_option linter.unusedSimpArgs false
def isIns {α : Type} (c : α → α → Int) (a : α) : List α → List α
  | [] => [a]
  | b :: l => if c a b ≤ 0 then a :: b :: l else b :: isIns c a l
def isort {α : Type} (c : α → α → Int) : List α → List α
  | [] => []
  | a :: l => isIns c a (isort c l)
theorem isIns_perm {α : Type} (c : α → α → Int) (a : α) : ∀ l, (isIns c a l).Perm (a :: l)
  | [] => List.Perm.refl _
  | b :: l => by
    unfold isIns
    split
    · exact List.Perm.refl _
    · exact ((isIns_perm c a l).cons b).trans (List.Perm.swap a b l)
theorem isort_perm {α : Type} (c : α → α → Int) : ∀ l, (isort c l).Perm l
  | [] => List.Perm.refl _
  | a :: l => (isIns_perm c a _).trans ((isort_perm c l).cons a)
theorem isIns_sorted {α : Type} (c : α → α → Int) (a : α) : ∀ l : List α, (∀ x ∈ a :: l, ∀ y ∈ a :: l, c y x = - c x y) → (∀ x ∈ a :: l, ∀ y ∈ a :: l, ∀ z ∈ a :: l, c x y ≤ 0 → c y z ≤ 0 → c x z ≤ 0) → l.Pairwise (fun x y => c x y ≤ 0) → (isIns c a l).Pairwise (fun x y => c x y ≤ 0)
  | [], _, _, _ => by simp [isIns]
  | b :: l, hf, ht, h => by
    obtain ⟨h1, h2⟩ := List.pairwise_cons.1 h
    unfold isIns
    split
    · rename_i hab
      refine List.pairwise_cons.2 ⟨fun x hx => ?_, h⟩
      rcases List.mem_cons.1 hx with e | hx'
      · rw [e]; exact hab
      · exact ht a (by simp) b (by simp) x (by simp [hx']) hab (h1 x hx')
    · rename_i hab
      refine List.pairwise_cons.2 ⟨fun x hx => ?_, isIns_sorted c a l (fun x hx y hy => hf x (by simp at hx ⊢; rcases hx with e | e <;> simp [e]) y (by simp at hy ⊢; rcases hy with e | e <;> simp [e])) (fun x hx y hy z hz => ht x (by simp at hx ⊢; rcases hx with e | e <;> simp [e]) y (by simp at hy ⊢; rcases hy with e | e <;> simp [e]) z (by simp at hz ⊢; rcases hz with e | e <;> simp [e])) h2⟩
      rcases List.mem_cons.1 ((isIns_perm c a l).mem_iff.1 hx) with e | hx'
      · rw [e, hf a (by simp) b (by simp)]; omega
      · exact h1 x hx'
theorem isort_sorted {α : Type} (c : α → α → Int) : ∀ l : List α, (∀ x ∈ l, ∀ y ∈ l, c y x = - c x y) → (∀ x ∈ l, ∀ y ∈ l, ∀ z ∈ l, c x y ≤ 0 → c y z ≤ 0 → c x z ≤ 0) → (isort c l).Pairwise (fun x y => c x y ≤ 0)
  | [], _, _ => by simp [isort]
  | a :: l, hf, ht => by
    have hm : ∀ x, x ∈ a :: isort c l → x ∈ a :: l := fun x hx => by
      rcases List.mem_cons.1 hx with e | hx'
      · simp [e]
      · simp [(isort_perm c l).mem_iff.1 hx']
    exact isIns_sorted c a (isort c l) (fun x hx y hy => hf x (hm x hx) y (hm y hy)) (fun x hx y hy z hz => ht x (hm x hx) y (hm y hy) z (hm z hz))
      (isort_sorted c l (fun x hx y hy => hf x (by simp [hx]) y (by simp [hy])) (fun x hx y hy z hz => ht x (by simp [hx]) y (by simp [hy]) z (by simp [hz])))
theorem isIns_congr {α : Type} (c d : α → α → Int) (a : α) : ∀ l : List α, (∀ x ∈ l, c a x = d a x) → isIns c a l = isIns d a l
  | [], _ => rfl
  | b :: l, h => by
    unfold isIns
    rw [h b (by simp), isIns_congr c d a l (fun x hx => h x (by simp [hx]))]
theorem isort_congr {α : Type} (c d : α → α → Int) : ∀ l : List α, (∀ x ∈ l, ∀ y ∈ l, c x y = d x y) → isort c l = isort d l
  | [], _ => rfl
  | a :: l, h => by
    unfold isort
    rw [isort_congr c d l (fun x hx y hy => h x (by simp [hx]) y (by simp [hy]))]
    exact isIns_congr c d a _ (fun x hx => h a (by simp) x (by simp [(isort_perm d l).mem_iff.1 hx]))
theorem sorted_same {α : Type} (c : α → α → Int) : ∀ R S : List α, (∀ x ∈ R, ∀ y ∈ R, c y x = - c x y) → (∀ x ∈ R, ∀ y ∈ R, c x y = 0 → x = y) → R.Perm S → R.Pairwise (fun x y => c x y ≤ 0) → S.Pairwise (fun x y => c x y ≤ 0) → R = S
  | [], S, _, _, hp, _, _ => (List.Perm.nil_eq hp)
  | a :: R, [], _, _, hp, _, _ => by have := hp.length_eq; simp at this
  | a :: R, b :: S, hf, he, hp, h1, h2 => by
    obtain ⟨a1, a2⟩ := List.pairwise_cons.1 h1
    obtain ⟨b1, b2⟩ := List.pairwise_cons.1 h2
    have hb : b ∈ a :: R := hp.mem_iff.2 (by simp)
    have e : a = b := by
      rcases List.mem_cons.1 hb with e | hb'
      · exact e.symm
      · rcases List.mem_cons.1 (hp.mem_iff.1 (List.mem_cons_self : a ∈ a :: R)) with e | ha'
        · exact e
        · have k1 := a1 b hb'
          have k2 := b1 a ha'
          have k3 := hf a (by simp) b hb
          exact he a (by simp) b hb (by omega)
    subst e
    rw [sorted_same c R S (fun x hx y hy => hf x (by simp [hx]) y (by simp [hy])) (fun x hx y hy => he x (by simp [hx]) y (by simp [hy])) (List.Perm.cons_inv hp) a2 b2]
theorem sortW_heap {α : Type} [Inhabited α] (enc : α → List Value) (sz : Nat) (w : World) (g off m : Nat) (d : Array α) (os : Array Obj) (k : Nat) (hk : k < w.heap.size) (hne : k ≠ g) : (Go.Proofs.sortWorldK enc sz w g off m d os).heap[k]? = w.heap[k]? := by
  unfold Go.Proofs.sortWorldK Go.Sort.putRowK Go.Sort.putRow Go.Sort.mapBlock Go.Sort.ahead Go.Sort.grow
  simp only []
  rw [Array.getElem?_append_left (by simpa using hk), Array.getElem?_modify, if_neg (fun e => hne e.symm)]
theorem sortW_row {α : Type} [Inhabited α] (enc : α → List Value) (sz : Nat) (w : World) (g m : Nat) (d : Array α) (os : Array Obj) (cur : Array Value) (e : TypeId) (h : w.heap[g]? = some (.cells cur e (0, 0))) :
    (Go.Proofs.sortWorldK enc sz w g 0 m d os).heap[g]? = some (.cells (Go.Sort.putCells id 0 (Go.Sort.flatK enc sz d) cur) e (0, 0)) := by
  have hk : g < w.heap.size := (Array.getElem?_eq_some_iff.1 h).1
  unfold Go.Proofs.sortWorldK Go.Sort.putRowK Go.Sort.putRow Go.Sort.mapBlock Go.Sort.ahead Go.Sort.grow
  simp only []
  rw [Array.getElem?_append_left (by simpa using hk), Array.getElem?_modify, if_pos rfl, h]
  rfl
theorem grow_of_chg {w W : World} (h : Chg (fun _ => False) w W) : ∃ q os, W = Go.Sort.grow (w.drewN q) os := by
  obtain ⟨n, hn⟩ : ∃ n, W.drawn = w.drawn + n := ⟨W.drawn - w.drawn, by have := h.drawn; omega⟩
  refine ⟨n, W.heap.extract w.heap.size W.heap.size, ?_⟩
  have h1 := h.os
  have h2 := h.tape
  have h3 := h.output
  have hh : W.heap = w.heap ++ W.heap.extract w.heap.size W.heap.size := by
    apply Array.ext_getElem?
    intro i
    by_cases hi : i < w.heap.size
    · rw [Array.getElem?_append_left hi]; exact h.block i (fun h => h) hi
    · rw [Array.getElem?_append_right (by omega), Array.getElem?_extract]
      have := h.size
      by_cases hi2 : i < W.heap.size
      · rw [if_pos (by omega)]; congr 1; omega
      · rw [if_neg (by omega), Array.getElem?_eq_none (by omega)]
  cases W
  cases w
  simp only [Go.Sort.grow, World.drewN] at *
  subst h1 h2 h3 hn
  rw [← hh]
theorem sortW_drawn {α : Type} [Inhabited α] (enc : α → List Value) (sz : Nat) (w : World) (g off m : Nat) (d : Array α) (os : Array Obj) : w.drawn ≤ (Go.Proofs.sortWorldK enc sz w g off m d os).drawn := by
  unfold Go.Proofs.sortWorldK Go.Sort.putRowK Go.Sort.putRow Go.Sort.mapBlock Go.Sort.ahead Go.Sort.grow
  exact Nat.le_add_right _ _
theorem blkC {w : World} {g : Nat} {t : TypeId} {cs : Array Value} (h : w.heap[g]? = some (.cells cs t (0, 0))) (i : Nat) : w.cell? ⟨g, i, none⟩ = cs[i]? := by
  cases hq : cs[i]? with
  | none => simp only [World.cell?, h]; simp [hq]
  | some v => have := rangeAt_row h i v (by simpa using hq); simpa using this
theorem blkF {w : World} {g : Nat} {t : TypeId} {cs : Array Value} (h : w.heap[g]? = some (.cells cs t (0, 0))) (i : Nat) : w.frozen? ⟨g, i, none⟩ = false := by simp [World.frozen?, h]
theorem nth_succ {α : Type} [Inhabited α] (a : α) (l : List α) (i : Nat) : nth (a :: l) (i + 1) = nth l i := rfl
theorem rA_cells {M : Key → Option Value} {F : Nat → Prop} {w : World} {f : Nat → Key} : ∀ {L : List At} {j : Nat} {xs : List Value}, DenVs M F w (rA f j L) xs → ∀ i, i < L.length → ∃ u, M (f (j + i)) = some u ∧ (xs.drop (i * 3)).take 3 = [u, .int .i64 (nth L i).2.1, .bool (nth L i).2.2]
  | [], j, xs, h, i, hi => absurd hi (by simp)
  | a :: L, j, xs, h, i, hi => by
    unfold rA at h
    unfold DenVs at h
    obtain ⟨u, r, rfl, hu, h⟩ := h
    unfold DenVs at h
    obtain ⟨u1, r1, rfl, hu1, h⟩ := h
    unfold DenVs at h
    obtain ⟨u2, r2, rfl, hu2, h⟩ := h
    cases i with
    | zero =>
      unfold DenV at hu
      refine ⟨u, by rw [Nat.add_zero]; exact hu.1, ?_⟩
      rw [hu1.int, hu2.bool]
      rfl
    | succ i =>
      obtain ⟨v, h1, h2⟩ := rA_cells h i (by simpa using hi)
      refine ⟨v, by rw [show j + (i + 1) = j + 1 + i by omega]; exact h1, ?_⟩
      rw [show (i + 1) * 3 = i * 3 + 3 by omega]
      simpa [nth_succ] using h2
theorem rA_den {M : Key → Option Value} {F : Nat → Prop} {w : World} {f : Nat → Key} : ∀ {L : List At} {j : Nat} {xs : List Value}, xs.length = L.length * 3 → (∀ i, i < L.length → ∃ u A cap, M (f (j + i)) = some u ∧ u = .slice A (nth L i).1.length cap ∧ (((nth L i).1.length = 0 ∨ ∃ b o, A = some ⟨b, o, none⟩) ∧ (nth L i).1.length ≤ cap) ∧ (xs.drop (i * 3)).take 3 = [u, .int .i64 (nth L i).2.1, .bool (nth L i).2.2]) → DenVs M F w (rA f j L) xs
  | [], j, xs, hl, h => by
    obtain rfl := List.eq_nil_of_length_eq_zero (by simpa using hl)
    unfold rA; exact DenVs.nil
  | a :: L, j, xs, hl, h => by
    obtain ⟨u, A, cap, h1, h2, h3, h4⟩ := h 0 (by simp)
    rw [Nat.zero_mul, List.drop_zero] at h4
    obtain ⟨r, rfl⟩ : ∃ r, xs = u :: .int .i64 a.2.1 :: .bool a.2.2 :: r := by
      match xs, hl, h4 with
      | x :: y :: z :: r, _, h4 =>
        simp only [List.take_succ_cons, List.take_zero, List.cons.injEq, and_true] at h4
        obtain ⟨rfl, rfl, rfl⟩ := h4
        exact ⟨r, rfl⟩
      | [], hl, _ => simp at hl
      | [x], hl, _ => simp at hl; omega
      | [x, y], hl, _ => simp at hl; omega
    unfold rA
    refine DenVs.cons (by unfold DenV; exact ⟨h1, A, cap, h2, h3⟩) (DenVs.cons (by unfold DenV DenD; rfl) (DenVs.cons (by unfold DenV DenD; rfl) (rA_den (by simp at hl; omega) fun i hi => ?_)))
    obtain ⟨u', A', cap', k1, k2, k3, k4⟩ := h (i + 1) (by simp; omega)
    refine ⟨u', A', cap', by rw [show j + 1 + i = j + (i + 1) by omega]; exact k1, k2, k3, ?_⟩
    rw [show (i + 1) * 3 = i * 3 + 3 by omega] at k4
    simpa [nth_succ] using k4
def sortUp (k : Key) (fs n s : Nat) (S : List At) : Key → Option (Option Ent) := fun k' => if k' = k then some (some (.row 66 S.length (rA (fun j => (s, j)) 0 S)))
  else if k'.1 = s then (match ownA S k'.2 with | some e => some (some e) | none => none) else if k'.1 = fs ∧ k'.2 < n then some none else none
structure SortFine (cmp : At → At → Int) (L : List At) : Prop where
  len : L.length ≤ 1000000000
  call : ∀ a ∈ L, ∀ b ∈ L, Cn Tryz.prog 109 [A1 a, A1 b] (I (cmp a b)) hemp
  flip : ∀ a ∈ L, ∀ b ∈ L, cmp b a = - cmp a b
  same : ∀ a ∈ L, ∀ b ∈ L, cmp a b = 0 → a = b
  trans : ∀ a ∈ L, ∀ b ∈ L, ∀ c ∈ L, cmp a b ≤ 0 → cmp b c ≤ 0 → cmp a c ≤ 0
open Go.Sort in
theorem SWO_of {β : Type} {cmp : At → At → Int} {L : List At} (hc : SortFine cmp L) (g : β → At) (hg : ∀ x, g x ∈ L) : SWO (Go.Proofs.ltOf fun x y => cmp (g x) (g y)) := by
  have hlt : ∀ x y : β, Go.Proofs.ltOf (fun x y => cmp (g x) (g y)) x y = decide (cmp (g x) (g y) < 0) := fun x y => rfl
  refine ⟨fun x => ?_, fun x y z h1 h2 => ?_, fun x y z h1 h2 => ?_⟩
  · rw [hlt]; have := hc.flip _ (hg x) _ (hg x); simp; omega
  · rw [hlt] at *
    simp at h1 h2 ⊢
    have k1 := hc.trans _ (hg x) _ (hg y) _ (hg z) (by omega) (by omega)
    have f1 := hc.flip _ (hg x) _ (hg z)
    by_cases h3 : cmp (g x) (g z) = 0
    · have k2 := hc.trans _ (hg z) _ (hg x) _ (hg y) (by omega) (by omega)
      have f2 := hc.flip _ (hg z) _ (hg y)
      omega
    · omega
  · rw [hlt] at *
    simp at h1 h2 ⊢
    have f1 := hc.flip _ (hg x) _ (hg y)
    have f2 := hc.flip _ (hg y) _ (hg z)
    have f3 := hc.flip _ (hg x) _ (hg z)
    have k1 := hc.trans _ (hg z) _ (hg y) _ (hg x) (by omega) (by omega)
    omega
structure SE (L : List At) (M : Key → Option Value) (fs : Nat) where
  c : List Value
  i : Nat
  u : Value
  hi : i < L.length
  hu : M (fs, i) = some u
  hc : c = [u, .int .i64 (nth L i).2.1, .bool (nth L i).2.2]
def SE.a {L : List At} {M : Key → Option Value} {fs : Nat} (x : SE L M fs) : At := nth L x.i
theorem SE.mem {L : List At} {M : Key → Option Value} {fs : Nat} (x : SE L M fs) : x.a ∈ L := nth_mem x.hi
theorem SE.len {L : List At} {M : Key → Option Value} {fs : Nat} (x : SE L M fs) : x.c.length = 3 := by rw [x.hc]; rfl
theorem run_isAgg52 (w : World) : (isAgg 66).run Tryz.prog w = .ok true w := digest_isAgg dg66 w
theorem run_size52 (w : World) : (Go.sizeOf 66).run Tryz.prog w = .ok 3 w := run_sizeOf_digest dg66 w
end Go.Proofs.YtjknjekemolndaaGreat.ZL
namespace Go.Proofs.YtjknjekemolndaaGreat.ZL
open Go Go.Proofs.YtjknjekemolndaaGreat.Abs Go.Proofs.YtjknjekemolndaaGreat.Abs.Pl Go.RowKit Go.Proofs
set_option linter.unusedVariables false
set_option linter.unusedSimpArgs false
theorem rowA_den {M : Key → Option Value} {F : Nat → Prop} {w : World} {H : Store} (hR : Real Tryz.prog M F w H) {k k2 : Key} {e2 : Ent} {a : At} {u u2 : Value} {g : Nat} (h : H k = some (rowA a)) (hu : M k = some u)
    (h2 : H k2 = some e2) (hl : e2.live = true) (hu2 : M k2 = some u2) (hg : blkOf u2 = some g) (hne : k ≠ k2) : DenD (fun b => b = g) w (.sl a.1.length (a.1.map (.int .i64))) u := by
  obtain ⟨x, hx, hok, hFb⟩ := hR.ent _ _ h2
  rw [hu2] at hx; obtain rfl := Option.some.inj hx
  obtain ⟨y, hy, hok1, _⟩ := hR.ent _ _ h
  rw [hu] at hy; obtain rfl := Option.some.inj hy
  have hd : DenV M F w (.ref k a.1.length) u := by
    unfold DenV
    refine ⟨hu, ?_⟩
    rcases hok1 with ⟨xs, i, _, hown, _⟩ | ⟨A, h1, h3, _⟩
    · rcases hown.2 with ⟨rfl, h0⟩ | ⟨g', cap, cur, rfl, _, _, hnc, _⟩
      · exact ⟨none, 0, by rw [h0], .inl h0, by omega⟩
      · exact ⟨_, _, rfl, .inr ⟨_, _, rfl⟩, hnc⟩
    · exact ⟨A, 0, by rw [h1, h3], .inl h3, by omega⟩
  refine lendD_den (al := true) (n := 1) (Fc := fun b => b = g) (ks := [k]) hR (fun b hb => by subst hb; exact hFb hl _ hg) ?_ (fun _ b hb => ?_) hd
  · rw [lendD_ref, h]
    simp [lendR, rowA, dl_joinO, consK]
  · rintro ⟨k', hk', e, v, h3, h4, h5, h6⟩
    obtain rfl := List.mem_singleton.1 hk'
    subst hb
    exact hne (hR.inj _ _ _ _ _ _ _ h3 h2 h4 hl h5 hu2 h6 hg)
open Go.Sort in
set_option maxHeartbeats 4000000 in
theorem sort_run {M : Key → Option Value} {F : Nat → Prop} {w : World} {H : Store} (hR : Real Tryz.prog M F w H) {k : Key} {fs : Nat} {L : List At} {cmp : At → At → Int} (hc : SortFine cmp L) (hpos : 0 < L.length)
    (hk : H k = some (.row 66 L.length (rA (fun j => (fs, j)) 0 L))) (hF : ∀ j, j < L.length → H (fs, j) = some (rowA (nth L j))) (hkf : k.1 ≠ fs) {uk : Value} (huk : M k = some uk) :
    ∃ g cap, uk = .slice (some ⟨g, 0, none⟩) L.length cap ∧ g < w.heap.size ∧ L.length ≤ cap ∧ cap ≤ maxLen ∧
      Calls Tryz.prog 108 #[uk, .func (.func 109) #[] #[]] w fun e w' => e = .returned (.tuple #[]) ∧ Chg (fun b => b = g) w w' ∧ ∃ (d : Array (SE L M fs)) (cur : Array Value), d.size = L.length ∧ (d.toList.map SE.i).Perm (List.range L.length) ∧ d.toList.map SE.a = isort cmp L ∧
        w'.heap[g]? = some (.cells cur 66 (0, 0)) ∧ cur.size = cap * 3 ∧ ∀ j (hj : j < d.size), (cur.toList.drop (j * 3)).take 3 = d[j].c := by
  obtain ⟨x, hx, hok, hFk⟩ := hR.ent _ _ hk
  rw [huk] at hx; obtain rfl := Option.some.inj hx
  rcases hok with hok | ⟨A, _, h0, _⟩
  rotate_left
  · omega
  obtain ⟨xs, inf, hinf, hown, hden⟩ := hok
  have hsz3 : inf.size = 3 := by
    obtain ⟨i2, h1, h2, _⟩ := digest_size dg66
    rw [hinf] at h1
    obtain rfl := Option.some.inj h1
    exact h2
  rcases hown.2 with ⟨_, h0⟩ | hrow
  · omega
  obtain ⟨g, cap, cur, rfl, _, hg, hncap, hcapm, hcs, htake⟩ := hrow
  rw [hsz3] at hcs htake
  have hglt : g < w.heap.size := block_lt hg
  have hblk : blkOf (.slice (some ⟨g, 0, none⟩) L.length cap) = some g := by simp only [blkOf]; rw [if_neg (by omega)]
  refine ⟨g, cap, rfl, hglt, hncap, hcapm, ?_⟩
  have hxs : ∀ t, t < L.length * 3 → xs[t]? = cur[t]? := fun t ht => by
    rw [← htake, List.getElem?_take_of_lt ht, Array.getElem?_toList]
  have hcells := rA_cells hden
  simp only [Nat.zero_add] at hcells
  let el : (i : Fin L.length) → SE L M fs := fun i => ⟨(xs.drop (i.1 * 3)).take 3, i.1, Classical.choose (hcells i.1 i.2), i.2, (Classical.choose_spec (hcells i.1 i.2)).1, (Classical.choose_spec (hcells i.1 i.2)).2⟩
  haveI : Inhabited (SE L M fs) := ⟨el ⟨0, hpos⟩⟩
  let enc : SE L M fs → List Value := SE.c
  let cf : SE L M fs → SE L M fs → Int := fun x y => cmp x.a y.a
  let d : Array (SE L M fs) := Array.ofFn el
  have hds : d.size = L.length := by simp [d]
  have hdg : ∀ i (hi : i < L.length), d[i]! = el ⟨i, hi⟩ := fun i hi => by rw [getElem!_pos d i (by omega)]; simp [d]
  have hH : HoldsK enc 3 w g 0 d := by
    intro t ht
    rw [size_flatK, hds] at ht
    rw [get_flatK enc 3 d t (by rw [hds]; exact ht), Nat.zero_add]
    have hq : t / 3 < L.length := by omega
    have hm : t % 3 < 3 := Nat.mod_lt _ (by omega)
    rw [hdg _ hq]
    have hl3 := SE.len (el ⟨t / 3, hq⟩)
    have hv : (el ⟨t / 3, hq⟩).c[t % 3]? = cur[t]? := by
      show ((xs.drop (t / 3 * 3)).take 3)[t % 3]? = cur[t]?
      rw [List.getElem?_take_of_lt hm, List.getElem?_drop, show t / 3 * 3 + t % 3 = t by omega, hxs t ht]
    constructor
    · rw [blkC hg, ← hv]
      show _ = some (id ((el ⟨t / 3, hq⟩).c[t % 3]!))
      rw [getElem!_pos _ _ (by rw [hl3]; exact hm), List.getElem?_eq_getElem (by rw [hl3]; exact hm)]; rfl
    · exact blkF hg t
  have hcmp : Go.Proofs.CmpLays Tryz.prog 109 #[] enc 3 cf g 0 d.size w := by
    intro m os dk _ x y
    have hsame : Abs.Holds (fun b => b = g) (fun _ => False) w (Go.Proofs.sortWorldK enc 3 w g 0 m dk os) := ⟨fun b hb => hb.elim, fun b hb hl => sortW_heap enc 3 w g 0 m dk os b hl hb⟩
    have rd : ∀ z : SE L M fs, DenV (fun _ => none) (fun _ => False) (Go.Proofs.sortWorldK enc 3 w g 0 m dk os) (A1 z.a) (.agg (enc z).toArray) := fun z => by
      have hd1 : DenD (fun b => b = g) w (.sl z.a.1.length (z.a.1.map (.int .i64))) z.u := rowA_den hR (hF z.i z.hi) z.hu hk rfl huk hblk (fun e => hkf (by rw [← e]))
      unfold DenV
      refine ⟨_, rfl, ?_⟩
      show DenVs _ _ _ _ z.c
      rw [z.hc]
      exact DenVs.cons (by unfold DenV; exact hd1.move hsame) (DenVs.cons (by unfold DenV DenD; rfl) (DenVs.cons (by unfold DenV DenD; rfl) DenVs.nil))
    refine ((hc.call x.a x.mem y.a y.mem).run (Go.Proofs.sortWorldK enc 3 w g 0 m dk os) (fun _ => False) _ (fun b hb => hb.elim) (by
      simp only [Array.append_empty]
      exact DenVs.cons (rd x) (DenVs.cons (rd y) DenVs.nil))).mono ?_
    rintro e w' ⟨v, M', F', rfl, _, hv, _, hchg, _⟩
    have hv2 := hv.int
    subst hv2
    obtain ⟨q, os', hw⟩ := grow_of_chg hchg
    exact ⟨rfl, q, os', hw⟩
  have hS := Go.Proofs.AnyQ.slices_SortFunc Tryz.sortL 3 run_isAgg52 run_size52 enc (fun x => x.len) (fun x v hv => by
    have hv' : v ∈ x.c := hv
    rw [x.hc] at hv'
    simp only [List.mem_cons, List.not_mem_nil, or_false] at hv'
    rcases hv' with rfl | rfl | rfl
    · obtain ⟨y, hy, hok1, _⟩ := hR.ent _ _ (hF x.i x.hi)
      rw [x.hu] at hy; obtain rfl := Option.some.inj hy
      rcases hok1 with ⟨xs, i, _, hown, _⟩ | ⟨A, h1, _⟩
      · rcases hown.2 with ⟨h1, _⟩ | ⟨g', cap, cur, h1, _⟩ <;> rw [h1] <;> rfl
      · rw [h1]; rfl
    · rfl
    · rfl) cf (SWO_of hc SE.a SE.mem) 109 #[] g 0 cap d w Tryz.call109 hcmp hH hglt (by rw [hds]; have := hc.len; omega)
  change Calls Tryz.prog 108 _ _ _ at hS
  rw [hds] at hS
  refine hS.mono ?_
  rintro e w' ⟨rfl, d', m, os, ⟨hp1, _, hp3⟩, hs, rfl⟩
  have hd's : d'.size = L.length := by rw [hp1, hds]
  have hperm : d'.toList.Perm d.toList := by
    have e1 : (d'.extract 0 L.length) = d' := by rw [← hd's]; simp
    have e2 : (d.extract 0 L.length) = d := by rw [← hds]; simp
    rwa [e1, e2] at hp3
  have hdl : d.toList.map SE.a = L := by
    apply List.ext_getElem
    · simp [d]
    · intro i h1 h2
      simp [d, el, SE.a]
      exact nth_eq h2
  have hdi : d.toList.map SE.i = List.range L.length := by
    apply List.ext_getElem
    · simp [d]
    · intro i h1 h2; simp [d, el]
  refine ⟨rfl, ⟨rfl, rfl, rfl, Go.Proofs.size_sortWorldK_c enc 3 w g 0 m d' os, fun b hb hl => sortW_heap enc 3 w g 0 m d' os b hl hb, sortW_drawn enc 3 w g 0 m d' os⟩, d', _, hd's, hdi ▸ hperm.map SE.i, ?_, sortW_row enc 3 w g m d' os cur 66 hg, ?_, ?_⟩
  · refine sorted_same cmp _ _ ?_ ?_ ?_ ?_ (isort_sorted cmp L hc.flip hc.trans)
    · intro x hx y hy
      obtain ⟨x', _, rfl⟩ := List.mem_map.1 hx
      obtain ⟨y', _, rfl⟩ := List.mem_map.1 hy
      exact hc.flip _ x'.mem _ y'.mem
    · intro x hx y hy h1
      obtain ⟨x', _, rfl⟩ := List.mem_map.1 hx
      obtain ⟨y', _, rfl⟩ := List.mem_map.1 hy
      exact hc.same _ x'.mem _ y'.mem h1
    · have := hperm.map SE.a
      rw [hdl] at this
      exact this.trans (isort_perm cmp L).symm
    · rw [List.pairwise_map, List.pairwise_iff_getElem]
      intro i j hi hj hij
      have := hs i j (Nat.zero_le _) hij (by simpa [hd's] using hj)
      rw [getElem!_pos d' i (by simpa using hi), getElem!_pos d' j (by simpa using hj)] at this
      have this : decide (cmp (d'[j]'(by simpa using hj)).a (d'[i]'(by simpa using hi)).a < 0) = false := this
      have f := hc.flip _ (d'[i]'(by simpa using hi)).mem _ (d'[j]'(by simpa using hj)).mem
      simp at this
      simp only [Array.getElem_toList]
      omega
  · unfold putCells; rw [Array.size_mapIdx]; exact hcs
  · intro j hj
    have h3 := (d'[j]).len
    apply List.ext_getElem?
    intro i
    by_cases hi : i < 3
    · have ht : j * 3 + i < L.length * 3 := by omega
      rw [List.getElem?_take_of_lt hi, List.getElem?_drop, Array.getElem?_toList]
      simp only [putCells, Array.getElem?_mapIdx]
      have hlt : j * 3 + i < cur.size := by
        rw [hcs]
        have : L.length * 3 ≤ cap * 3 := Nat.mul_le_mul_right _ hncap
        omega
      rw [Array.getElem?_eq_getElem hlt, Option.map_some, if_pos ⟨Nat.zero_le _, by simp [hd's]; omega⟩, Nat.sub_zero, get_flatK enc 3 d' _ (by omega)]
      rw [show (j * 3 + i) / 3 = j by omega, show (j * 3 + i) % 3 = i by omega, getElem!_pos d' j (by omega), getElem!_pos _ i (by show i < d'[j].c.length; omega)]
      rw [List.getElem?_eq_getElem (by omega)]
      rfl
    · rw [List.getElem?_eq_none (by simp; omega), List.getElem?_eq_none (by omega)]
end Go.Proofs.YtjknjekemolndaaGreat.ZL
namespace Go.Proofs.YtjknjekemolndaaGreat.ZL
open Go Go.Proofs.YtjknjekemolndaaGreat.Abs Go.Proofs.YtjknjekemolndaaGreat.Abs.Pl Go.RowKit Go.Proofs
set_option linter.unusedVariables false
set_option linter.unusedSimpArgs false
theorem CallJ.sort {N nx s : Nat} {H : Store} {K : Eff → Prop} (fs : Nat) (k : Key) (L : List At) (cmp : At → At → Int) (hc : SortFine cmp L)
    (hk : H k = some (.row 66 L.length (rA (fun j => (fs, j)) 0 L))) (hF : ∀ j, j < L.length → H (fs, j) = some (rowA (nth L j))) (hkf : k.1 ≠ fs) (hkn : k.1 < nx) (hfn : fs < nx)
    (hK : K ⟨.tup [], k :: (List.range L.length).map (fun j => (fs, j)), k :: (List.range L.length).map (fun j => (fs, j)), sortUp k fs L.length s (isort cmp L)⟩) :
    CallJ Tryz.prog N nx s H 108 [.ref k L.length, .fn 109 []] K := by
  have hmem : ∀ k', k' ∈ k :: (List.range L.length).map (fun j => (fs, j)) ↔ k' = k ∨ k'.1 = fs ∧ k'.2 < L.length := by
    intro k'
    simp only [List.mem_cons, List.mem_map, List.mem_range]
    constructor
    · rintro (h | ⟨j, hj, rfl⟩)
      · exact .inl h
      · exact .inr ⟨rfl, hj⟩
    · rintro (h | ⟨h1, h2⟩)
      · exact .inl h
      · exact .inr ⟨k'.2, h2, by rw [← h1]⟩
  refine ⟨_, hK, Tryz.call108, fun k' h => ?_, fun k' h => h, fun k' h => ?_, fun {w0 F0 E0 fr T Hc a w M F us dst} hfr hat hden hH hd => ?_⟩
  · simp only [sortUp] at h
    split at h
    · rename_i h1; exact .inr ((hmem k').2 (.inl h1))
    · split at h
      · rename_i h1; exact .inl h1
      · split at h
        · rename_i h1; exact .inr ((hmem k').2 (.inr h1))
        · exact absurd rfl h
  · rcases (hmem k').1 h with rfl | ⟨h1, h2⟩
    · exact ⟨by rw [hk]; rfl, .inl hkn⟩
    · have : k' = (fs, k'.2) := by rw [← h1]
      exact ⟨by rw [this, hF _ h2]; rfl, .inl (by omega)⟩
  have hkc : Hc k = some (.row 66 L.length (rA (fun j => (fs, j)) 0 L)) := by rw [hH k ((hmem k).2 (.inl rfl)), hk]
  have hFc : ∀ j, j < L.length → Hc (fs, j) = some (rowA (nth L j)) := fun j hj => by rw [hH _ ((hmem _).2 (.inr ⟨rfl, hj⟩)), hF j hj]
  obtain ⟨uk, huk, _⟩ := hat.real.ent _ _ hkc
  obtain rfl : us = #[uk, .func (.func 109) #[] #[]] := by
    unfold DenVs at hden
    obtain ⟨u, r, h1, h2, h3⟩ := hden
    unfold DenVs at h3
    obtain ⟨u', r', rfl, h4, h5⟩ := h3
    unfold DenVs at h5
    subst h5
    unfold DenV at h2 h4
    rw [huk] at h2
    obtain ⟨cs, h6, h7⟩ := h4
    unfold DenVs at h7
    have hcs : cs = #[] := by simpa using h7
    have h8 := Option.some.inj h2.1
    refine Array.toList_inj.1 ?_
    rw [h1, ← h8, h6, hcs]
  have hfs : ∀ k' : Key, k'.1 = s → M k' = none := fun k' hk' => hat.free k' (by rw [hk']; exact hfr)
  have hks : k.1 ≠ s := fun e => by rw [hfs k e] at huk; exact absurd huk (by simp)
  by_cases hL : L.length = 0
  · obtain rfl := List.eq_nil_of_length_eq_zero hL
    have hS := AnyF.slices_SortFunc_none (P := Tryz.prog) (ρ := Tryz.sortL_ren) { Tryz.sortL with }
    obtain ⟨x, hx, hok, _⟩ := hat.real.ent _ _ hkc
    rw [huk] at hx; obtain rfl := Option.some.inj hx
    obtain ⟨A, cap, rfl⟩ : ∃ A cap, uk = .slice A 0 cap := by
      rcases hok with ⟨xs, i, _, hown, _⟩ | ⟨A, h1, _⟩
      · rcases hown.2 with ⟨rfl, _⟩ | ⟨g', cap, cur, rfl, _⟩
        · exact ⟨_, _, rfl⟩
        · exact ⟨_, _, rfl⟩
      · exact ⟨A, 0, h1⟩
    have hS := hS A cap (.func (.func 109) #[] #[]) w
    change Calls Tryz.prog 108 _ _ _ at hS
    refine hS.mono ?_
    rintro e w' ⟨rfl, rfl⟩
    refine ⟨_, rfl, ?_⟩
    have e1 : app (sortUp k fs ([] : List At).length s (isort cmp [])) Hc = Hc := by
      funext k'
      simp only [app, sortUp, isort, List.length_nil, ownA]
      by_cases h1 : k' = k
      · subst h1; simp [hkc]; rfl
      · by_cases h2 : k'.1 = s
        · simp [h1, h2]
        · simp [h1, h2]
    rw [e1]
    exact hat.step hd (fun _ _ h => h) (fun _ _ => rfl) hat.keep (Abs.Holds.refl F w') hat.real (by unfold DenV; exact ⟨#[], rfl, DenVs.nil⟩) (Chg.refl (fun _ => False) w') (fun _ h => h.elim) hat.reach
  have hpos : 0 < L.length := by omega
  obtain ⟨g, cap, rfl, hglt, hncap, hcapm, hcall⟩ := sort_run hat.real hc hpos hkc hFc hkf huk
  refine hcall.mono ?_
  rintro e w' ⟨rfl, hchg, d, cur, hds, hperm, hdl, hg', hcs, hcells⟩
  refine ⟨_, rfl, ?_⟩
  have hblk : blkOf (.slice (some ⟨g, 0, none⟩) L.length cap) = some g := by simp only [blkOf]; rw [if_neg (by omega)]
  have hclen : cur.toList.length = cap * 3 := by rw [← hcs]; simp
  have hSl : (isort cmp L).length = L.length := (isort_perm cmp L).length_eq
  have hgF : F g := by
    obtain ⟨x, hx, _, hF⟩ := hat.real.ent _ _ hkc
    rw [huk] at hx; obtain rfl := Option.some.inj hx
    exact hF rfl g hblk
  have hSn : ∀ j (hj : j < L.length), nth (isort cmp L) j = (d[j]'(by omega)).a := fun j hj => by
    have hj2 : j < (isort cmp L).length := by omega
    rw [nth_eq hj2]
    simp only [← hdl]
    simp
  let tg : Nat → Nat := fun j => if h : j < d.size then (d[j]).i else 0
  have htg : ∀ j (hj : j < L.length), tg j = (d[j]'(by omega)).i := fun j hj => by show (if h : j < d.size then (d[j]).i else 0) = _; rw [dif_pos (by omega)]
  have htlt : ∀ j, j < L.length → tg j < L.length := fun j hj => by rw [htg j hj]; exact (d[j]'(by omega)).hi
  have hnd : (d.toList.map SE.i).Nodup := hperm.nodup_iff.2 List.nodup_range
  have htinj : ∀ i j, i < L.length → j < L.length → tg i = tg j → i = j := fun i j hi hj h => by
    rw [htg i hi, htg j hj] at h
    have hi' : i < (d.toList.map SE.i).length := by simp; omega
    have hj' : j < (d.toList.map SE.i).length := by simp; omega
    have hp := List.pairwise_iff_getElem.1 hnd
    have he : (d.toList.map SE.i)[i] = (d.toList.map SE.i)[j] := by simpa using h
    rcases Nat.lt_trichotomy i j with h1 | h1 | h1
    · exact absurd he (hp i j hi' hj' h1)
    · exact h1
    · exact absurd he.symm (hp j i hj' hi' h1)
  let M2 : Key → Option Value := fun k' => if k'.1 = s then (if k'.2 < L.length then M (fs, tg k'.2) else none) else M k'
  have hM2o : ∀ k' : Key, k'.1 ≠ s → M2 k' = M k' := fun k' h => by show (if k'.1 = s then _ else M k') = _; rw [if_neg h]
  have hM2s : ∀ j, j < L.length → M2 (s, j) = M (fs, tg j) := fun j hj => by show (if s = s then (if j < L.length then M (fs, tg j) else none) else _) = _; rw [if_pos rfl, if_pos hj]
  have hM : ∀ k' x, M k' = some x → M2 k' = some x := fun k' x h => by rw [hM2o k' (fun e => by rw [hfs k' e] at h; exact absurd h (by simp))]; exact h
  have hh : Abs.Holds F F w w' := ⟨fun b hb => .inl hb, fun b hb hl => hchg.block b (fun e => hb (e ▸ hgF)) hl⟩
  have hget : ∀ k' e', app (sortUp k fs L.length s (isort cmp L)) Hc k' = some e' →
      (k' = k ∧ e' = .row 66 (isort cmp L).length (rA (fun j => (s, j)) 0 (isort cmp L))) ∨ (∃ j, j < L.length ∧ k' = (s, j) ∧ e' = rowA (nth (isort cmp L) j)) ∨ (k' ≠ k ∧ k'.1 ≠ s ∧ ¬ (k'.1 = fs ∧ k'.2 < L.length) ∧ Hc k' = some e') := by
    intro k' e' h
    simp only [app, sortUp] at h
    by_cases h1 : k' = k
    · rw [if_pos h1] at h; exact .inl ⟨h1, (Option.some.inj h).symm⟩
    · rw [if_neg h1] at h
      by_cases h2 : k'.1 = s
      · rw [if_pos h2] at h
        cases hq : ownA (isort cmp L) k'.2 with
        | none =>
          rw [hq] at h
          simp only at h
          obtain ⟨x, hx, _⟩ := hat.real.ent _ _ h
          rw [hfs k' h2] at hx; exact absurd hx (by simp)
        | some e0 =>
          rw [hq] at h
          simp only [Option.some.injEq] at h
          obtain ⟨h3, h4⟩ := ownA_some hq
          exact .inr (.inl ⟨k'.2, by omega, by rw [← h2], by rw [← h, h4]⟩)
      · rw [if_neg h2] at h
        by_cases h3 : k'.1 = fs ∧ k'.2 < L.length
        · rw [if_pos h3] at h; exact absurd h (by simp)
        · rw [if_neg h3] at h; exact .inr (.inr ⟨h1, h2, h3, h⟩)
  have hoth : ∀ k' e' u b, k' ≠ k → Hc k' = some e' → e'.live = true → M k' = some u → blkOf u = some b → b ≠ g := by
    intro k' e' u b hne h hl hu hb e
    subst e
    exact hne (hat.real.inj _ _ _ _ _ _ _ h hkc hl rfl hu huk hb hblk)
  have hfk : ∀ j, (fs, j) ≠ k := fun j e => hkf (by rw [← e])
  have hph : ∀ k' e' u b, app (sortUp k fs L.length s (isort cmp L)) Hc k' = some e' → e'.live = true → M2 k' = some u → blkOf u = some b → ∃ k0 e0, Hc k0 = some e0 ∧ e0.live = true ∧ M k0 = some u ∧ (k' = k ∧ k0 = k ∨ (∃ j, j < L.length ∧ k' = (s, j) ∧ k0 = (fs, tg j)) ∨ (k' ≠ k ∧ k'.1 ≠ s ∧ ¬ (k'.1 = fs ∧ k'.2 < L.length) ∧ k0 = k')) := by
    intro k' e' u b h hl hu hb
    rcases hget k' e' h with ⟨rfl, rfl⟩ | ⟨j, hj, rfl, rfl⟩ | ⟨h1, h2, h3, h4⟩
    · exact ⟨k', _, hkc, rfl, by rw [← hM2o k' hks]; exact hu, .inl ⟨rfl, rfl⟩⟩
    · exact ⟨(fs, tg j), _, hFc _ (htlt j hj), rfl, by rw [← hM2s j hj]; exact hu, .inr (.inl ⟨j, hj, rfl, rfl⟩)⟩
    · exact ⟨k', e', h4, hl, by rw [← hM2o k' h2]; exact hu, .inr (.inr ⟨h1, h2, h3, rfl⟩)⟩
  refine hat.step (M' := M2) (F' := F) hd hM hM2o hat.keep hh ⟨?_, ?_⟩ (by unfold DenV; exact ⟨#[], rfl, DenVs.nil⟩) hchg (fun b hb => ?_) ?_
  · intro k' e' h
    rcases hget k' e' h with ⟨rfl, rfl⟩ | ⟨j, hj, rfl, rfl⟩ | ⟨h1, h2, h3, h4⟩
    · refine ⟨_, by rw [hM2o k' hks]; exact huk, ?_, fun _ b hb => by rw [hblk] at hb; obtain rfl := Option.some.inj hb; exact hgF⟩
      obtain ⟨inf, hinf, hsz, _⟩ := digest_size dg66
      have hsz3 : inf.size = 3 := hsz
      refine .inl ⟨cur.toList.take (L.length * 3), inf, hinf, ?_, ?_⟩
      · rw [hsz3, hSl]
        refine ⟨?_, .inr ⟨g, cap, cur, rfl, Nat.zero_le _, hg', hncap, hcapm, hcs, rfl⟩⟩
        rw [List.length_take, hclen, Nat.min_eq_left (Nat.mul_le_mul_right _ hncap)]
      · refine rA_den ?_ ?_
        · rw [List.length_take, hclen, Nat.min_eq_left (Nat.mul_le_mul_right _ hncap), hSl]
        · intro j hj
          rw [hSl] at hj
          have hcj := hcells j (by omega)
          have hx := (d[j]'(by omega)).hc
          have hu := (d[j]'(by omega)).hu
          obtain ⟨y, hy, hok, _⟩ := hat.real.ent _ _ (hFc _ (d[j]'(by omega)).hi)
          rw [hu] at hy; obtain rfl := Option.some.inj hy
          have hsl : ∃ A cap, (d[j]'(by omega)).u = .slice A (nth L (d[j]'(by omega)).i).1.length cap ∧ (((nth L (d[j]'(by omega)).i).1.length = 0 ∨ ∃ b o, A = some ⟨b, o, none⟩) ∧ (nth L (d[j]'(by omega)).i).1.length ≤ cap) := by
            rcases hok with ⟨xs, i, _, hown, _⟩ | ⟨A, h1, h3, _⟩
            · rcases hown.2 with ⟨h1, h0⟩ | ⟨g', cap, cur, h1, _, _, hnc, _⟩
              · exact ⟨none, 0, by rw [h1, h0], .inl h0, by omega⟩
              · exact ⟨_, _, h1, .inr ⟨_, _, rfl⟩, hnc⟩
            · exact ⟨A, 0, by rw [h1, h3], .inl h3, by omega⟩
          obtain ⟨A, cp, e1, e2⟩ := hsl
          rw [hSn j hj]
          refine ⟨(d[j]'(by omega)).u, A, cp, ?_, e1, e2, ?_⟩
          · rw [Nat.zero_add, hM2s j hj, htg j hj]; exact hu
          · rw [List.drop_take, List.take_take, Nat.min_eq_left (by omega), hcj, hx]; rfl
    · have hj2 := hFc _ (htlt j hj)
      obtain ⟨u, hu, hok, hFb⟩ := hat.real.ent _ _ hj2
      have e1 : nth (isort cmp L) j = nth L (tg j) := by rw [hSn j hj, htg j hj]; rfl
      rw [e1]
      refine ⟨u, by rw [hM2s j hj]; exact hu, hok.move hM hh (fun hl b hb => hchg.block b (hoth _ _ u b (hfk _) hj2 rfl hu hb) (hok.blk_lt hl hb)), hFb⟩
    · obtain ⟨u, hu, hok, hFb⟩ := hat.real.ent _ _ h4
      exact ⟨u, hM _ _ hu, hok.move hM hh (fun hl b hb => hchg.block b (hoth _ _ u b h1 h4 hl hu hb) (hok.blk_lt hl hb)), hFb⟩
  · intro k1 k2 e1 e2 u1 u2 b h1 h2 hl1 hl2 hu1 hu2 hb1 hb2
    obtain ⟨q1, f1, a1, a2, a3, a4⟩ := hph k1 e1 u1 b h1 hl1 hu1 hb1
    obtain ⟨q2, f2, b1, b2, b3, b4⟩ := hph k2 e2 u2 b h2 hl2 hu2 hb2
    have hq := hat.real.inj q1 q2 _ _ _ _ b a1 b1 a2 b2 a3 b3 hb1 hb2
    subst hq
    rcases a4 with ⟨rfl, rfl⟩ | ⟨j, hj, rfl, rfl⟩ | ⟨c1, c2, c3, rfl⟩ <;> rcases b4 with ⟨rfl, h⟩ | ⟨j', hj', rfl, h⟩ | ⟨c1', c2', c3', h⟩
    · rfl
    · exact absurd h.symm (hfk _)
    · exact absurd h.symm c1'
    · exact absurd h (hfk _)
    · rw [htinj j j' hj hj' (by injection h)]
    · exact absurd ⟨by rw [← h], by rw [← h]; exact htlt j hj⟩ c3'
    · exact absurd h c1
    · exact absurd ⟨by rw [h], by rw [h]; exact htlt j' hj'⟩ c3
    · exact h
  · subst hb
    exact hat.reach _ _ _ b hkc rfl huk hblk
  · intro k' e' u b h hl hu hb
    obtain ⟨k0, e0, a1, a2, a3, _⟩ := hph k' e' u b h hl hu hb
    exact hat.reach k0 e0 u b a1 a2 a3 hb
theorem sortUp_k (k : Key) (fs n s : Nat) (S : List At) (H : Store) : app (sortUp k fs n s S) H k = some (.row 66 S.length (rA (fun j => (s, j)) 0 S)) := by simp [app, sortUp]
theorem sortUp_j (k : Key) (fs n s : Nat) (S : List At) (H : Store) (j : Nat) (h : j < S.length) (hk : k.1 ≠ s) : app (sortUp k fs n s S) H (s, j) = some (rowA (nth S j)) := by
  have : (s, j) ≠ k := fun e => hk (by rw [← e])
  simp [app, sortUp, this, ownA_lt h]
theorem sortUp_ne (k : Key) (fs n s : Nat) (S : List At) (H : Store) (a b : Nat) (h : (a, b) ≠ k) (h1 : a ≠ s) (h2 : a ≠ fs) : app (sortUp k fs n s S) H (a, b) = H (a, b) := by simp [app, sortUp, h, h1, h2]
attribute [simp] sortUp_k sortUp_ne
end Go.Proofs.YtjknjekemolndaaGreat.ZL
namespace Go.Proofs.YtjknjekemolndaaGreat.ZL
open Go Go.Proofs.YtjknjekemolndaaGreat.Abs Go.Proofs.YtjknjekemolndaaGreat.Abs.Pl Go.RowKit Go.Proofs
set_option linter.unusedVariables false
set_option linter.unusedSimpArgs false
abbrev O1 (d : Int) (R : List At) : V := .agg [I d, .ref (0, 0) R.length]
theorem iEmptyCell (d : Int) (hd : 0 ≤ d ∧ d ≤ 4) : Cn Tryz.prog 106 [I d] (O1 d [noneA d]) (ownR [noneA d]) := by
  refine Cn.of [] mixed Tryz.func106 rfl Tryz.call106 (by kernel_rfl) rfl ?_
  simp -implicitDefEqProofs -dsimp +contextual [-Bool.exists_bool, -Int.not_le, -Int.not_lt, -getElem?_pos, -List.getD_eq_getElem?_getD, Tryz.f106]
  have hl : (noneA d).1.length = d.toNat := by simp [-Bool.exists_bool, -Int.not_le, -Int.not_lt, -getElem?_pos, -List.getD_eq_getElem?_getD, noneA]
  refine ⟨⟨hd.1, by omega, by simp [-Bool.exists_bool, -Int.not_le, -Int.not_lt, -getElem?_pos, -List.getD_eq_getElem?_getD, maxLen]; omega⟩, ?_⟩
  refine RLe.own (5, 0) (fun _ => (3, 0)) [noneA d] ?_ ?_ ?_ ?_ ?_
  · simp [-Bool.exists_bool, -Int.not_le, -Int.not_lt, -getElem?_pos, -List.getD_eq_getElem?_getD, invO]
  · simp [-Bool.exists_bool, -Int.not_le, -Int.not_lt, -getElem?_pos, -List.getD_eq_getElem?_getD, setH, rA, hl]
    simp [-Bool.exists_bool, -Int.not_le, -Int.not_lt, -getElem?_pos, -List.getD_eq_getElem?_getD, noneA]
  · intro j hj
    obtain rfl : j = 0 := by simpa [-Bool.exists_bool, -Int.not_le, -Int.not_lt, -getElem?_pos, -List.getD_eq_getElem?_getD] using hj
    show _ = some (rowA (noneA d))
    simp [-Bool.exists_bool, -Int.not_le, -Int.not_lt, -getElem?_pos, -List.getD_eq_getElem?_getD, setH, rowA, hl]
    simp [-Bool.exists_bool, -Int.not_le, -Int.not_lt, -getElem?_pos, -List.getD_eq_getElem?_getD, noneA]
  · intro i j hi hj _
    simp [-Bool.exists_bool, -Int.not_le, -Int.not_lt, -getElem?_pos, -List.getD_eq_getElem?_getD] at hi hj
    omega
  · intro j _; simp [-Bool.exists_bool, -Int.not_le, -Int.not_lt, -getElem?_pos, -List.getD_eq_getElem?_getD]
theorem sortFine {d : Int} {K : List At} (hK : allOk d K) (hv : ∀ a ∈ K, hasV a = true) (hn : K.length ≤ 100000) : SortFine cmpK K := by
  have nz : ∀ a ∈ K, gcdL a.1 ≠ 0 := fun a ha h0 => by have := hv a ha; simp [-Bool.exists_bool, -Int.not_le, -Int.not_lt, -getElem?_pos, -List.getD_eq_getElem?_getD, hasV, h0] at this
  have ln : ∀ a ∈ K, ∀ b ∈ K, a.1.length = b.1.length := fun a ha b hb => by have h1 := (hK a ha).2; have h2 := (hK b hb).2; omega
  refine ⟨by omega, fun a ha b hb => ?_, fun a _ b _ => cmpK_flip a b, fun a ha b hb h => cmpK_eq (hK a ha).1 (hK b hb).1 (ln a ha b hb) (nz a ha) (nz b hb) h, fun a ha b hb c hc => cmpK_trans (ln a ha b hb) (ln b hb c hc)⟩
  have := iCompareAtoms a b
  rwa [cmpAt_K (hK a ha) (hK b hb)] at this
def noBad (L : List At) : Prop := L.any badA = false
def selA (s : Nat) (S : List At) (sel : List Nat) : List V := rA (fun j => (s, nth sel j)) 0 (sel.map (nth S))
theorem nth_app {α : Type} [Inhabited α] {l m : List α} {i : Nat} (h : i < l.length) : nth (l ++ m) i = nth l i := by rw [nth_eq h, nth_eq (by simp [-Bool.exists_bool, -Int.not_le, -Int.not_lt, -getElem?_pos, -List.getD_eq_getElem?_getD]; omega), List.getElem_append_left h]
theorem nth_last {α : Type} [Inhabited α] (l : List α) (a : α) : nth (l ++ [a]) l.length = a := by rw [nth_eq (by simp [-Bool.exists_bool, -Int.not_le, -Int.not_lt, -getElem?_pos, -List.getD_eq_getElem?_getD])]; simp [-Bool.exists_bool, -Int.not_le, -Int.not_lt, -getElem?_pos, -List.getD_eq_getElem?_getD]
theorem nth_map {α β : Type} [Inhabited α] [Inhabited β] (f : α → β) {l : List α} {i : Nat} (h : i < l.length) : nth (l.map f) i = f (nth l i) := by rw [nth_eq h, nth_eq (by simpa [-Bool.exists_bool, -Int.not_le, -Int.not_lt, -getElem?_pos, -List.getD_eq_getElem?_getD] using h)]; simp [-Bool.exists_bool, -Int.not_le, -Int.not_lt, -getElem?_pos, -List.getD_eq_getElem?_getD]
theorem selA_push (s : Nat) (S : List At) (sel : List Nat) (i : Nat) : selA s S (sel ++ [i]) = selA s S sel ++ [.ref (s, i) (nth S i).1.length, I (nth S i).2.1, B (nth S i).2.2] := by
  unfold selA
  rw [List.map_append, rA_append]
  congr 1
  · exact rA_congr _ _ (fun j hj => by rw [Nat.zero_add, nth_app (by simpa [-Bool.exists_bool, -Int.not_le, -Int.not_lt, -getElem?_pos, -List.getD_eq_getElem?_getD] using hj)])
  · simp [-Bool.exists_bool, -Int.not_le, -Int.not_lt, -getElem?_pos, -List.getD_eq_getElem?_getD, rA, nth_last]
theorem ddN_two {S : List At} {i : Nat} (h : i + 1 < S.length) : ddN (S.drop i) = if wayAt (nth S i).1 (nth S (i + 1)).1 = 0 then ddN (S.drop (i + 1)) else nth S i :: ddN (S.drop (i + 1)) := by
  rw [nth_drop (by omega : i < S.length), nth_drop h, ddN]
theorem ddN_one {S : List At} {i : Nat} (h : i < S.length) (h2 : ¬ i + 1 < S.length) : ddN (S.drop i) = [nth S i] := by
  rw [nth_drop h, drop_nil (by omega)]; rfl
theorem iNormalOf (d : Int) (hd : 0 ≤ d ∧ d ≤ 4) (L : List At) (h100 : L.length ≤ 100000) (hL : allOk d L) : Cn Tryz.prog 62 [I d, As L] (O1 d (nrm d L)) (ownR (nrm d L)) := by
  refine Cn.of [] mixed Tryz.func62 rfl Tryz.call62 (by kernel_rfl) rfl ?_
  simp -implicitDefEqProofs -dsimp +contextual [-Bool.exists_bool, -Int.not_le, -Int.not_lt, -getElem?_pos, -List.getD_eq_getElem?_getD, Tryz.f62]
  refine WP.loop mixed [] (fun i : Nat => ⟨tl [(0, I d), (4, .ptr (0, 0) 0), (5, .ref (1, 0) ((L.take i).filter hasV).length), (12, As L), (13, I L.length), (14, I i)],
      famS 2 (ownA ((L.take i).filter hasV)) (hl [((0, 0), .box [I 0, .nil]), ((1, 0), .row 66 ((L.take i).filter hasV).length (rA (fun j => (2, j)) 0 ((L.take i).filter hasV)))]), 3⟩)
    (fun i => i ≤ L.length ∧ noBad (L.take i)) (fun i => L.length - i) 0 (by kernel_rfl) ?_ ?_ ?_
  · refine Le.trans (Le.nil 5 66 (by simp [-Bool.exists_bool, -Int.not_le, -Int.not_lt, -getElem?_pos, -List.getD_eq_getElem?_getD])) (Le.fam 2 [] (fun _ => (0, 0)) [((1, 0), (6, 0))] ?_ ?_ ?_ ?_ ?_ ?_) <;> simp [-Bool.exists_bool, -Int.not_le, -Int.not_lt, -getElem?_pos, -List.getD_eq_getElem?_getD, setH, rA, invF]
  · exact ⟨Nat.zero_le _, rfl⟩
  · rintro i ⟨hi, hb⟩
    by_cases h : i < L.length
    · have ha := hL _ (nth_mem h)
      have hu := okA.nu ha
      have hlen : ((L.take i).filter hasV).length ≤ i := by
        have := List.length_filter_le hasV (L.take i)
        simp [-Bool.exists_bool, -Int.not_le, -Int.not_lt, -getElem?_pos, -List.getD_eq_getElem?_getD] at this
        omega
      simp -implicitDefEqProofs -dsimp +contextual [-Bool.exists_bool, -Int.not_le, -Int.not_lt, -getElem?_pos, -List.getD_eq_getElem?_getD, h]
      refine CallJ.pure (iHasVariables (nth L i) hu.1 hu.bd63) rfl (by simp [-Bool.exists_bool, -Int.not_le, -Int.not_lt, -getElem?_pos, -List.getD_eq_getElem?_getD]) ?_
      simp -implicitDefEqProofs -dsimp +contextual [-Bool.exists_bool, -Int.not_le, -Int.not_lt, -getElem?_pos, -List.getD_eq_getElem?_getD, h]
      have tk := nth_take h
      have fk : hasV (nth L i) = true → (L.take (i + 1)).filter hasV = (L.take i).filter hasV ++ [nth L i] := fun hh => by rw [tk, List.filter_append, List.filter_cons_of_pos hh]; rfl
      have fn : hasV (nth L i) = false → (L.take (i + 1)).filter hasV = (L.take i).filter hasV := fun hh => by rw [tk, List.filter_append, List.filter_cons_of_neg (by rw [hh]; simp [-Bool.exists_bool, -Int.not_le, -Int.not_lt, -getElem?_pos, -List.getD_eq_getElem?_getD])]; simp [-Bool.exists_bool, -Int.not_le, -Int.not_lt, -getElem?_pos, -List.getD_eq_getElem?_getD]
      have bk : badA (nth L i) = false → noBad (L.take (i + 1)) := fun hh => by unfold noBad at hb ⊢; rw [tk, List.any_append, hb]; simp [-Bool.exists_bool, -Int.not_le, -Int.not_lt, -getElem?_pos, -List.getD_eq_getElem?_getD, hh]
      have good : badA (nth L i) = true → nrm d L = [noneA d] := fun hh => by
        rw [nrm, if_pos]
        exact List.any_eq_true.2 ⟨_, nth_mem h, hh⟩
      refine ⟨fun hv => ?_, fun hv => ⟨fun hp => ?_, fun hp => ⟨fun hz => ⟨fun hs => ?_, fun hs => ?_⟩, fun hz => ?_⟩⟩⟩
      · refine CallJ.pure (iCopyAtom (nth L i) hu.1) rfl (by simp [-Bool.exists_bool, -Int.not_le, -Int.not_lt, -getElem?_pos, -List.getD_eq_getElem?_getD]) ?_
        simp -implicitDefEqProofs -dsimp +contextual [-Bool.exists_bool, -Int.not_le, -Int.not_lt, -getElem?_pos, -List.getD_eq_getElem?_getD, h]
        have hbad : badA (nth L i) = false := by simp [-Bool.exists_bool, -Int.not_le, -Int.not_lt, -getElem?_pos, -List.getD_eq_getElem?_getD, badA, hasV] at hv ⊢; intro h0; exact absurd h0 hv
        refine ⟨⟨by omega, by simp [-Bool.exists_bool, -Int.not_le, -Int.not_lt, -getElem?_pos, -List.getD_eq_getElem?_getD, maxLen]; omega⟩, i + 1, ⟨h, bk hbad⟩, by omega, ?_⟩
        rw [fk hv, wr (by omega) (by omega)]
        generalize (L.take i).filter hasV = K
        refine Le.fam 2 (K ++ [nth L i]) (fPush 2 K.length (13, 0)) [((1, 0), (15, 0))] ?_ ?_ ?_ ?_ (push_inj (by simp [-Bool.exists_bool, -Int.not_le, -Int.not_lt, -getElem?_pos, -List.getD_eq_getElem?_getD])) ?_
        · simp [-Bool.exists_bool, -Int.not_le, -Int.not_lt, -getElem?_pos, -List.getD_eq_getElem?_getD, invF]
        · simp [-Bool.exists_bool, -Int.not_le, -Int.not_lt, -getElem?_pos, -List.getD_eq_getElem?_getD, setH, ELe]
          exact push_VLes K (nth L i) (13, 0) (by simp [-Bool.exists_bool, -Int.not_le, -Int.not_lt, -getElem?_pos, -List.getD_eq_getElem?_getD])
        · simp [-Bool.exists_bool, -Int.not_le, -Int.not_lt, -getElem?_pos, -List.getD_eq_getElem?_getD]
        · exact push_F (fun j hj => by simp [-Bool.exists_bool, -Int.not_le, -Int.not_lt, -getElem?_pos, -List.getD_eq_getElem?_getD, setH, ownA_lt hj]) (by simp [-Bool.exists_bool, -Int.not_le, -Int.not_lt, -getElem?_pos, -List.getD_eq_getElem?_getD, setH, rowA])
        · intro j hj
          simp [-Bool.exists_bool, -Int.not_le, -Int.not_lt, -getElem?_pos, -List.getD_eq_getElem?_getD, fPush]
          split <;> simp [-Bool.exists_bool, -Int.not_le, -Int.not_lt, -getElem?_pos, -List.getD_eq_getElem?_getD]
      · refine CallJ.pure (iEmptyCell d hd) rfl (by simp [-Bool.exists_bool, -Int.not_le, -Int.not_lt, -getElem?_pos, -List.getD_eq_getElem?_getD]) ?_
        simp -implicitDefEqProofs -dsimp +contextual [-Bool.exists_bool, -Int.not_le, -Int.not_lt, -getElem?_pos, -List.getD_eq_getElem?_getD, h]
        rw [good (by simp [-Bool.exists_bool, -Int.not_le, -Int.not_lt, -getElem?_pos, -List.getD_eq_getElem?_getD, badA, hp]; simpa [-Bool.exists_bool, -Int.not_le, -Int.not_lt, -getElem?_pos, -List.getD_eq_getElem?_getD, hasV] using hv)]
        refine RLe.own (24, 0) (fun j => (24, j + 1)) [noneA d] ?_ ?_ ?_ ?_ ?_
        · simp [-Bool.exists_bool, -Int.not_le, -Int.not_lt, -getElem?_pos, -List.getD_eq_getElem?_getD, invO]
        · simp [-Bool.exists_bool, -Int.not_le, -Int.not_lt, -getElem?_pos, -List.getD_eq_getElem?_getD, setH]
        · intro j hj; simp [-Bool.exists_bool, -Int.not_le, -Int.not_lt, -getElem?_pos, -List.getD_eq_getElem?_getD, setH, upOwn_j _ _ _ _ hj]
        · intro i j _ _; simp [-Bool.exists_bool, -Int.not_le, -Int.not_lt, -getElem?_pos, -List.getD_eq_getElem?_getD]
        · intro j _; simp [-Bool.exists_bool, -Int.not_le, -Int.not_lt, -getElem?_pos, -List.getD_eq_getElem?_getD]
      · refine CallJ.pure (iEmptyCell d hd) rfl (by simp [-Bool.exists_bool, -Int.not_le, -Int.not_lt, -getElem?_pos, -List.getD_eq_getElem?_getD]) ?_
        simp -implicitDefEqProofs -dsimp +contextual [-Bool.exists_bool, -Int.not_le, -Int.not_lt, -getElem?_pos, -List.getD_eq_getElem?_getD, h]
        rw [good (by simp [-Bool.exists_bool, -Int.not_le, -Int.not_lt, -getElem?_pos, -List.getD_eq_getElem?_getD, badA, hz, hs]; simpa [-Bool.exists_bool, -Int.not_le, -Int.not_lt, -getElem?_pos, -List.getD_eq_getElem?_getD, hasV] using hv)]
        refine RLe.own (24, 0) (fun j => (24, j + 1)) [noneA d] ?_ ?_ ?_ ?_ ?_
        · simp [-Bool.exists_bool, -Int.not_le, -Int.not_lt, -getElem?_pos, -List.getD_eq_getElem?_getD, invO]
        · simp [-Bool.exists_bool, -Int.not_le, -Int.not_lt, -getElem?_pos, -List.getD_eq_getElem?_getD, setH]
        · intro j hj; simp [-Bool.exists_bool, -Int.not_le, -Int.not_lt, -getElem?_pos, -List.getD_eq_getElem?_getD, setH, upOwn_j _ _ _ _ hj]
        · intro i j _ _; simp [-Bool.exists_bool, -Int.not_le, -Int.not_lt, -getElem?_pos, -List.getD_eq_getElem?_getD]
        · intro j _; simp [-Bool.exists_bool, -Int.not_le, -Int.not_lt, -getElem?_pos, -List.getD_eq_getElem?_getD]
      · refine ⟨i + 1, ⟨h, bk (by simp [-Bool.exists_bool, -Int.not_le, -Int.not_lt, -getElem?_pos, -List.getD_eq_getElem?_getD, badA, hz, hs])⟩, by omega, ?_⟩
        rw [fn hv, wr (by omega) (by omega)]
        generalize (L.take i).filter hasV = K
        refine Le.fam 2 K (fun j => (2, j)) [] ?_ ?_ ?_ ?_ (fun i j _ _ h => by injection h) ?_
        · simp [-Bool.exists_bool, -Int.not_le, -Int.not_lt, -getElem?_pos, -List.getD_eq_getElem?_getD, invF]
        · simp [-Bool.exists_bool, -Int.not_le, -Int.not_lt, -getElem?_pos, -List.getD_eq_getElem?_getD, setH, ELe]
          exact rA_VLes K 0 (fun i _ => by simp [-Bool.exists_bool, -Int.not_le, -Int.not_lt, -getElem?_pos, -List.getD_eq_getElem?_getD, invF])
        · simp [-Bool.exists_bool, -Int.not_le, -Int.not_lt, -getElem?_pos, -List.getD_eq_getElem?_getD]
        · intro j hj; simp [-Bool.exists_bool, -Int.not_le, -Int.not_lt, -getElem?_pos, -List.getD_eq_getElem?_getD, setH, ownA_lt hj]
        · intro j hj; simp [-Bool.exists_bool, -Int.not_le, -Int.not_lt, -getElem?_pos, -List.getD_eq_getElem?_getD]
      · refine ⟨i + 1, ⟨h, bk (by simp [-Bool.exists_bool, -Int.not_le, -Int.not_lt, -getElem?_pos, -List.getD_eq_getElem?_getD, badA, hz, hp])⟩, by omega, ?_⟩
        rw [fn hv, wr (by omega) (by omega)]
        generalize (L.take i).filter hasV = K
        refine Le.fam 2 K (fun j => (2, j)) [] ?_ ?_ ?_ ?_ (fun i j _ _ h => by injection h) ?_
        · simp [-Bool.exists_bool, -Int.not_le, -Int.not_lt, -getElem?_pos, -List.getD_eq_getElem?_getD, invF]
        · simp [-Bool.exists_bool, -Int.not_le, -Int.not_lt, -getElem?_pos, -List.getD_eq_getElem?_getD, setH, ELe]
          exact rA_VLes K 0 (fun i _ => by simp [-Bool.exists_bool, -Int.not_le, -Int.not_lt, -getElem?_pos, -List.getD_eq_getElem?_getD, invF])
        · simp [-Bool.exists_bool, -Int.not_le, -Int.not_lt, -getElem?_pos, -List.getD_eq_getElem?_getD]
        · intro j hj; simp [-Bool.exists_bool, -Int.not_le, -Int.not_lt, -getElem?_pos, -List.getD_eq_getElem?_getD, setH, ownA_lt hj]
        · intro j hj; simp [-Bool.exists_bool, -Int.not_le, -Int.not_lt, -getElem?_pos, -List.getD_eq_getElem?_getD]
    · obtain rfl : i = L.length := by omega
      rw [List.take_length] at hb
      simp -implicitDefEqProofs -dsimp +contextual [-Bool.exists_bool, -Int.not_le, -Int.not_lt, -getElem?_pos, -List.getD_eq_getElem?_getD, h]
      have hKL : ∀ a ∈ L.filter hasV, a ∈ L ∧ hasV a = true := fun a ha => List.mem_filter.1 ha
      have hKn : (L.filter hasV).length ≤ 100000 := by have := List.length_filter_le hasV L; omega
      have hfine := sortFine (d := d) (K := L.filter hasV) (fun a ha => hL a (hKL a ha).1) (fun a ha => (hKL a ha).2) hKn
      have hperm := isort_perm cmpK (L.filter hasV)
      have hsort := isort_sorted cmpK (L.filter hasV) hfine.flip hfine.trans
      have hdd : nrm d L = ddN (isort cmpK (L.filter hasV)) := by
        rw [nrm, if_neg (by rw [hb]; simp [-Bool.exists_bool, -Int.not_le, -Int.not_lt, -getElem?_pos, -List.getD_eq_getElem?_getD])]
        refine (dd_nf d.toNat (L.filter hasV) _ (fun a ha => ?_) hperm hsort).symm
        obtain ⟨h1, h2⟩ := hKL a ha
        have h3 := hL a h1
        exact ⟨h3.1, by have := h3.2; omega, by simpa [-Bool.exists_bool, -Int.not_le, -Int.not_lt, -getElem?_pos, -List.getD_eq_getElem?_getD, hasV] using h2⟩
      have hSn := hperm.length_eq
      have hSok : ∀ a ∈ isort cmpK (L.filter hasV), okA d a := fun a ha => hL a (hKL a (hperm.mem_iff.1 ha)).1
      refine CallJ.sort 2 (1, 0) (L.filter hasV) cmpK hfine (by simp [-Bool.exists_bool, -Int.not_le, -Int.not_lt, -getElem?_pos, -List.getD_eq_getElem?_getD]) (fun j hj => by simp [-Bool.exists_bool, -Int.not_le, -Int.not_lt, -getElem?_pos, -List.getD_eq_getElem?_getD, ownA_lt hj]) (by simp [-Bool.exists_bool, -Int.not_le, -Int.not_lt, -getElem?_pos, -List.getD_eq_getElem?_getD]) (by simp [-Bool.exists_bool, -Int.not_le, -Int.not_lt, -getElem?_pos, -List.getD_eq_getElem?_getD]) (by simp [-Bool.exists_bool, -Int.not_le, -Int.not_lt, -getElem?_pos, -List.getD_eq_getElem?_getD]) ?_
      generalize isort cmpK (L.filter hasV) = S at hdd hSn hSok ⊢
      rw [← hSn] at hKn ⊢
      simp -implicitDefEqProofs -dsimp +contextual [-Bool.exists_bool, -Int.not_le, -Int.not_lt, -getElem?_pos, -List.getD_eq_getElem?_getD, h]
      refine WP.loop mixed [] (fun p : Nat × List Nat => ⟨tl [(0, I d), (4, .ptr (0, 0) 0), (5, .ref (1, 0) S.length), (8, .ptr (3, 0) 0), (46, .ref (1, 0) S.length), (47, I S.length), (48, I p.1)],
          famS 2 (ownA S) (hl [((0, 0), .box [I 0, .nil]), ((1, 0), .row 66 S.length (rA (fun j => (2, j)) 0 S)), ((3, 0), .box [I d, .ref (4, 0) p.2.length]), ((4, 0), .row 66 p.2.length (selA 2 S p.2))]), 5⟩)
        (fun p => p.1 ≤ S.length ∧ p.2.length ≤ p.1 ∧ ddN S = p.2.map (nth S) ++ ddN (S.drop p.1) ∧ p.2.Nodup ∧ ∀ j ∈ p.2, j < p.1) (fun p => S.length - p.1) (0, []) (by kernel_rfl) ?_ ?_ ?_
      · refine Le.trans (Le.nilBox (9, 0) 1 66 (c := [I d, .nil]) (by simp [-Bool.exists_bool, -Int.not_le, -Int.not_lt, -getElem?_pos, -List.getD_eq_getElem?_getD, setH]) rfl) (Le.fam 2 S (fun j => (5, j)) [((3, 0), (9, 0)), ((4, 0), (14, 0))] ?_ ?_ ?_ ?_ (fun i j _ _ h => by injection h) ?_)
        · simp [-Bool.exists_bool, -Int.not_le, -Int.not_lt, -getElem?_pos, -List.getD_eq_getElem?_getD, invF, hSn]
        · simp [-Bool.exists_bool, -Int.not_le, -Int.not_lt, -getElem?_pos, -List.getD_eq_getElem?_getD, setH, ELe, selA, rA, invF]
          exact rA_VLes S 0 (fun i _ => by simp [-Bool.exists_bool, -Int.not_le, -Int.not_lt, -getElem?_pos, -List.getD_eq_getElem?_getD, invF])
        · simp [-Bool.exists_bool, -Int.not_le, -Int.not_lt, -getElem?_pos, -List.getD_eq_getElem?_getD]
        · intro j hj; simp [-Bool.exists_bool, -Int.not_le, -Int.not_lt, -getElem?_pos, -List.getD_eq_getElem?_getD, setH, sortUp_j _ _ _ _ _ _ _ hj]
        · intro j hj; simp [-Bool.exists_bool, -Int.not_le, -Int.not_lt, -getElem?_pos, -List.getD_eq_getElem?_getD]
      · exact ⟨Nat.zero_le _, Nat.le_refl _, rfl, List.nodup_nil, fun j hj => by simp [-Bool.exists_bool, -Int.not_le, -Int.not_lt, -getElem?_pos, -List.getD_eq_getElem?_getD] at hj⟩
      · rintro ⟨i, sel⟩ ⟨hi2, hsl, hgo, hnd, hlt⟩
        simp only at hi2 hsl hgo hnd hlt
        by_cases h2 : i < S.length
        · have hu := okA.nu (hSok _ (nth_mem h2))
          have hw : IntKind.wrap .i64 ((i : Int) + 1) = (i : Int) + 1 := wr (by omega) (by omega)
          have ht : ((i : Int) + 1).toNat = i + 1 := by omega
          simp -implicitDefEqProofs -dsimp +contextual [-Bool.exists_bool, -Int.not_le, -Int.not_lt, -getElem?_pos, -List.getD_eq_getElem?_getD, h2, hw, ht, rA_cut0]
          refine ⟨fun h3 => ?_, fun h3 => ?_⟩
          · have h3' : i + 1 < S.length := by omega
            refine ⟨by omega, by omega, ?_⟩
            simp only [rA_cut0 _ S (i + 1) h3']
            have hu2 := okA.nu (hSok _ (nth_mem h3'))
            refine CallJ.lent (ks := [(2, i), (2, i + 1)]) 3 (iCompareDirections (nth S i) (nth S (i + 1)) hu hu2 (by have h4 := (hSok _ (nth_mem h2)).2; have h5 := (hSok _ (nth_mem h3')).2; omega)) (by simp [-Bool.exists_bool, -Int.not_le, -Int.not_lt, -getElem?_pos, -List.getD_eq_getElem?_getD, setH, ownA_lt h2, ownA_lt h3', rowA]) (by simp [-Bool.exists_bool, -Int.not_le, -Int.not_lt, -getElem?_pos, -List.getD_eq_getElem?_getD]) rfl (by simp [-Bool.exists_bool, -Int.not_le, -Int.not_lt, -getElem?_pos, -List.getD_eq_getElem?_getD]) ?_
            simp -implicitDefEqProofs -dsimp +contextual [-Bool.exists_bool, -Int.not_le, -Int.not_lt, -getElem?_pos, -List.getD_eq_getElem?_getD, h2, h3, hw]
            refine ⟨fun h4 => ?_, fun h4 => ?_⟩
            · refine ⟨i + 1, sel, ⟨h2, by omega, by rw [hgo, ddN_two h3', if_pos h4], hnd, fun j hj => by have := hlt j hj; omega⟩, by omega, ?_⟩
              refine Le.fam 2 S (fun j => (2, j)) [] ?_ ?_ ?_ ?_ (fun i j _ _ h => by injection h) ?_
              · simp [-Bool.exists_bool, -Int.not_le, -Int.not_lt, -getElem?_pos, -List.getD_eq_getElem?_getD, invF]
              · simp [-Bool.exists_bool, -Int.not_le, -Int.not_lt, -getElem?_pos, -List.getD_eq_getElem?_getD, setH, ELe, invF]
                exact ⟨rA_VLes S 0 (fun i _ => by simp [-Bool.exists_bool, -Int.not_le, -Int.not_lt, -getElem?_pos, -List.getD_eq_getElem?_getD, invF]), rA_VLes _ 0 (fun i _ => by simp [-Bool.exists_bool, -Int.not_le, -Int.not_lt, -getElem?_pos, -List.getD_eq_getElem?_getD, invF])⟩
              · simp [-Bool.exists_bool, -Int.not_le, -Int.not_lt, -getElem?_pos, -List.getD_eq_getElem?_getD]
              · intro j hj; simp [-Bool.exists_bool, -Int.not_le, -Int.not_lt, -getElem?_pos, -List.getD_eq_getElem?_getD, setH, ownA_lt hj]
              · intro j hj; simp [-Bool.exists_bool, -Int.not_le, -Int.not_lt, -getElem?_pos, -List.getD_eq_getElem?_getD]
            · refine ⟨⟨by omega, by simp [-Bool.exists_bool, -Int.not_le, -Int.not_lt, -getElem?_pos, -List.getD_eq_getElem?_getD, maxLen]; omega⟩, i + 1, sel ++ [i], ⟨h2, by simp [-Bool.exists_bool, -Int.not_le, -Int.not_lt, -getElem?_pos, -List.getD_eq_getElem?_getD]; omega, by rw [hgo, ddN_two h3', if_neg h4, List.map_append, List.append_assoc]; rfl, ?_, ?_⟩, by omega, ?_⟩
              · exact List.nodup_append.2 ⟨hnd, by simp [-Bool.exists_bool, -Int.not_le, -Int.not_lt, -getElem?_pos, -List.getD_eq_getElem?_getD], fun a ha b hb e => by obtain rfl := List.mem_singleton.1 hb; have := hlt a ha; omega⟩
              · intro j hj
                rcases List.mem_append.1 hj with hj | hj
                · have := hlt j hj; omega
                · obtain rfl := List.mem_singleton.1 hj; omega
              · refine Le.fam 2 S (fun j => (2, j)) [((4, 0), (31, 0))] ?_ ?_ ?_ ?_ (fun i j _ _ h => by injection h) ?_
                · simp [-Bool.exists_bool, -Int.not_le, -Int.not_lt, -getElem?_pos, -List.getD_eq_getElem?_getD, invF]
                · simp [-Bool.exists_bool, -Int.not_le, -Int.not_lt, -getElem?_pos, -List.getD_eq_getElem?_getD, setH, ELe, invF]
                  refine ⟨rA_VLes S 0 (fun i _ => by simp [-Bool.exists_bool, -Int.not_le, -Int.not_lt, -getElem?_pos, -List.getD_eq_getElem?_getD, invF]), ?_⟩
                  rw [selA_push]
                  exact VLes_app (rA_VLes _ 0 (fun i _ => by simp [-Bool.exists_bool, -Int.not_le, -Int.not_lt, -getElem?_pos, -List.getD_eq_getElem?_getD, invF])) (by simp [-Bool.exists_bool, -Int.not_le, -Int.not_lt, -getElem?_pos, -List.getD_eq_getElem?_getD, VLes, VLe, asDz, invF])
                · simp [-Bool.exists_bool, -Int.not_le, -Int.not_lt, -getElem?_pos, -List.getD_eq_getElem?_getD]
                · intro j hj; simp [-Bool.exists_bool, -Int.not_le, -Int.not_lt, -getElem?_pos, -List.getD_eq_getElem?_getD, setH, ownA_lt hj]
                · intro j hj; simp [-Bool.exists_bool, -Int.not_le, -Int.not_lt, -getElem?_pos, -List.getD_eq_getElem?_getD]
          · have h3' : ¬ i + 1 < S.length := by omega
            refine ⟨⟨by omega, by simp [-Bool.exists_bool, -Int.not_le, -Int.not_lt, -getElem?_pos, -List.getD_eq_getElem?_getD, maxLen]; omega⟩, i + 1, sel ++ [i], ⟨h2, by simp [-Bool.exists_bool, -Int.not_le, -Int.not_lt, -getElem?_pos, -List.getD_eq_getElem?_getD]; omega, by rw [hgo, ddN_one h2 h3', drop_nil (by omega : S.length ≤ i + 1), List.map_append, List.append_assoc]; rfl, ?_, ?_⟩, by omega, ?_⟩
            · exact List.nodup_append.2 ⟨hnd, by simp [-Bool.exists_bool, -Int.not_le, -Int.not_lt, -getElem?_pos, -List.getD_eq_getElem?_getD], fun a ha b hb e => by obtain rfl := List.mem_singleton.1 hb; have := hlt a ha; omega⟩
            · intro j hj
              rcases List.mem_append.1 hj with hj | hj
              · have := hlt j hj; omega
              · obtain rfl := List.mem_singleton.1 hj; omega
            · refine Le.fam 2 S (fun j => (2, j)) [((4, 0), (31, 0))] ?_ ?_ ?_ ?_ (fun i j _ _ h => by injection h) ?_
              · simp [-Bool.exists_bool, -Int.not_le, -Int.not_lt, -getElem?_pos, -List.getD_eq_getElem?_getD, invF]
              · simp [-Bool.exists_bool, -Int.not_le, -Int.not_lt, -getElem?_pos, -List.getD_eq_getElem?_getD, setH, ELe, invF]
                refine ⟨rA_VLes S 0 (fun i _ => by simp [-Bool.exists_bool, -Int.not_le, -Int.not_lt, -getElem?_pos, -List.getD_eq_getElem?_getD, invF]), ?_⟩
                rw [selA_push]
                exact VLes_app (rA_VLes _ 0 (fun i _ => by simp [-Bool.exists_bool, -Int.not_le, -Int.not_lt, -getElem?_pos, -List.getD_eq_getElem?_getD, invF])) (by simp [-Bool.exists_bool, -Int.not_le, -Int.not_lt, -getElem?_pos, -List.getD_eq_getElem?_getD, VLes, VLe, asDz, invF])
              · simp [-Bool.exists_bool, -Int.not_le, -Int.not_lt, -getElem?_pos, -List.getD_eq_getElem?_getD]
              · intro j hj; simp [-Bool.exists_bool, -Int.not_le, -Int.not_lt, -getElem?_pos, -List.getD_eq_getElem?_getD, setH, ownA_lt hj]
              · intro j hj; simp [-Bool.exists_bool, -Int.not_le, -Int.not_lt, -getElem?_pos, -List.getD_eq_getElem?_getD]
        · rw [drop_nil (by omega)] at hgo
          have hgo' : nrm d L = sel.map (nth S) := by rw [hdd, hgo]; simp [-Bool.exists_bool, -Int.not_le, -Int.not_lt, -getElem?_pos, -List.getD_eq_getElem?_getD, ddN]
          simp -implicitDefEqProofs -dsimp +contextual [-Bool.exists_bool, -Int.not_le, -Int.not_lt, -getElem?_pos, -List.getD_eq_getElem?_getD, h2]
          rw [hgo']
          refine RLe.own (4, 0) (fun j => (2, nth sel j)) (sel.map (nth S)) ?_ ?_ ?_ ?_ ?_
          · simp [-Bool.exists_bool, -Int.not_le, -Int.not_lt, -getElem?_pos, -List.getD_eq_getElem?_getD, invO]
          · simp [-Bool.exists_bool, -Int.not_le, -Int.not_lt, -getElem?_pos, -List.getD_eq_getElem?_getD, setH, selA]
          · intro j hj
            have hj' : j < sel.length := by simpa [-Bool.exists_bool, -Int.not_le, -Int.not_lt, -getElem?_pos, -List.getD_eq_getElem?_getD] using hj
            have := hlt _ (nth_mem hj')
            simp [-Bool.exists_bool, -Int.not_le, -Int.not_lt, -getElem?_pos, -List.getD_eq_getElem?_getD, setH, nth_map (nth S) hj', ownA_lt (show nth sel j < S.length by omega)]
          · intro a b ha hb e
            have ha' : a < sel.length := by simpa [-Bool.exists_bool, -Int.not_le, -Int.not_lt, -getElem?_pos, -List.getD_eq_getElem?_getD] using ha
            have hb' : b < sel.length := by simpa [-Bool.exists_bool, -Int.not_le, -Int.not_lt, -getElem?_pos, -List.getD_eq_getElem?_getD] using hb
            have e2 : nth sel a = nth sel b := by injection e
            rw [nth_eq ha', nth_eq hb'] at e2
            have hp := List.pairwise_iff_getElem.1 hnd
            rcases Nat.lt_trichotomy a b with h1 | h1 | h1
            · exact absurd e2 (hp a b ha' hb' h1)
            · exact h1
            · exact absurd e2.symm (hp b a hb' ha' h1)
          · intro j _; simp [-Bool.exists_bool, -Int.not_le, -Int.not_lt, -getElem?_pos, -List.getD_eq_getElem?_getD]
end Go.Proofs.YtjknjekemolndaaGreat.ZL
namespace Go.Proofs.YtjknjekemolndaaGreat.ZL
open Go Go.Proofs.YtjknjekemolndaaGreat.Abs Go.Proofs.YtjknjekemolndaaGreat.Abs.Pl Go.RowKit Go.Proofs
set_option linter.unusedVariables false
set_option linter.unusedSimpArgs false
def oV (r : Int × List At × Bool) : V := if r.2.2 = true then .tup [O1 r.1 r.2.1, B true] else .tup [.agg [I 0, .nil], B false]
def oH (r : Int × List At × Bool) : Store := if r.2.2 = true then ownR r.2.1 else hemp
theorem oV_t {r : Int × List At × Bool} (h : r.2.2 = true) : oV r = .tup [O1 r.1 r.2.1, B true] := if_pos h
theorem oV_f {r : Int × List At × Bool} (h : ¬ r.2.2 = true) : oV r = .tup [.agg [I 0, .nil], B false] := if_neg h
theorem oH_t {r : Int × List At × Bool} (h : r.2.2 = true) : oH r = ownR r.2.1 := if_pos h
theorem oH_f {r : Int × List At × Bool} (h : ¬ r.2.2 = true) : oH r = hemp := if_neg h
theorem Cn.weak {f : Nat} {vs : List V} {r : Int × List At × Bool} (h0 : ¬ r.2.2 = true → r = (0, [], false)) (h : Cn Tryz.prog f vs (oV r) (oH r)) : Cn Tryz.prog f vs (D2 r) hemp := by
  by_cases hr : r.2.2 = true
  · rw [oV_t hr, oH_t hr] at h
    refine Cn.freeze 2 h ?_
    simp only [lendT, lendVs, lendV, List.map_cons, List.map_nil, joinO, own_lend, lendD_d, hr, D2]
  · rw [oV_f hr, oH_f hr] at h
    rw [h0 hr]
    refine Cn.freeze 2 h ?_
    simp only [lendT, lendVs, lendV, List.map_cons, List.map_nil, joinO, lendD_d, lendD_nil, D2]
    rfl
theorem iLimitedNormal (d : Int) (hd : 0 ≤ d ∧ d ≤ 4) (L : List At) (h100 : L.length ≤ 100000) (hL : allOk d L) : Cn Tryz.prog 53 [I d, As L] (oV (limN d L)) (oH (limN d L)) := by
  refine Cn.of [] mixed Tryz.func53 rfl Tryz.call53 (by kernel_rfl) rfl ?_
  simp -implicitDefEqProofs -dsimp +contextual [-Bool.exists_bool, -Int.not_le, -Int.not_lt, -getElem?_pos, -List.getD_eq_getElem?_getD, Tryz.f53]
  refine CallJ.pure (iNormalOf d hd L h100 hL) rfl (by simp [-Bool.exists_bool, -Int.not_le, -Int.not_lt, -getElem?_pos, -List.getD_eq_getElem?_getD]) ?_
  simp -implicitDefEqProofs -dsimp +contextual [-Bool.exists_bool, -Int.not_le, -Int.not_lt, -getElem?_pos, -List.getD_eq_getElem?_getD]
  refine ⟨fun h => ?_, fun h => ?_⟩
  · rw [limN, if_pos (by omega)]
    rw [oV_f (by simp [-Bool.exists_bool, -Int.not_le, -Int.not_lt, -getElem?_pos, -List.getD_eq_getElem?_getD]), oH_f (by simp [-Bool.exists_bool, -Int.not_le, -Int.not_lt, -getElem?_pos, -List.getD_eq_getElem?_getD])]
    exact RLe.emp (by simp [-Bool.exists_bool, -Int.not_le, -Int.not_lt, -getElem?_pos, -List.getD_eq_getElem?_getD])
  · rw [limN, if_neg (by omega)]
    rw [oV_t rfl, oH_t rfl]
    refine RLe.own (4, 0) (fun j => (4, j + 1)) (nrm d L) ?_ ?_ ?_ ?_ ?_
    · simp [-Bool.exists_bool, -Int.not_le, -Int.not_lt, -getElem?_pos, -List.getD_eq_getElem?_getD, invO]
    · simp [-Bool.exists_bool, -Int.not_le, -Int.not_lt, -getElem?_pos, -List.getD_eq_getElem?_getD, setH]
    · intro j hj; simp [-Bool.exists_bool, -Int.not_le, -Int.not_lt, -getElem?_pos, -List.getD_eq_getElem?_getD, setH, upOwn_j _ _ _ _ hj]
    · intro i j _ _; simp [-Bool.exists_bool, -Int.not_le, -Int.not_lt, -getElem?_pos, -List.getD_eq_getElem?_getD]
    · intro j _; simp [-Bool.exists_bool, -Int.not_le, -Int.not_lt, -getElem?_pos, -List.getD_eq_getElem?_getD]
def dropD (d : Int) (L : List At) (v : Int) : Int × List At × Bool := if isCe d L = true ∧ 0 ≤ v ∧ v < d then dropC d v.toNat L else (0, [], false)
theorem limN_f {d : Int} {M : List At} (h : ¬ (limN d M).2.2 = true) : limN d M = (0, [], false) := by
  unfold limN at h ⊢
  split
  · rfl
  · rename_i h2; rw [if_neg h2] at h; exact absurd rfl h
theorem dropC_f {d : Int} {v : Nat} {L : List At} (h : ¬ (dropC d v L).2.2 = true) : dropC d v L = (0, [], false) := by
  unfold dropC at h ⊢
  split
  · rfl
  · rename_i M e; rw [e] at h; exact limN_f h
theorem dropD_f {d : Int} {v : Int} {L : List At} (h : ¬ (dropD d L v).2.2 = true) : dropD d L v = (0, [], false) := by
  unfold dropD at h ⊢
  split
  · rename_i h2; rw [if_pos h2] at h; exact dropC_f h
  · rfl
set_option maxRecDepth 100000 in
theorem iDropVariable (d : Int) (v : Int) (L : List At) (h20 : L.length ≤ 1048576) : Cn Tryz.prog 14 [C1 d L, I v] (oV (dropD d L v)) (oH (dropD d L v)) := by
  refine Cn.of [] mixed Tryz.func14 rfl Tryz.call14 (by kernel_rfl) rfl ?_
  simp -implicitDefEqProofs -dsimp +contextual [-Bool.exists_bool, -Int.not_le, -Int.not_lt, -getElem?_pos, -List.getD_eq_getElem?_getD, Tryz.f14]
  refine CallJ.pure (iIsCell d L h20) rfl (by simp [-Bool.exists_bool, -Int.not_le, -Int.not_lt, -getElem?_pos, -List.getD_eq_getElem?_getD]) ?_
  simp -implicitDefEqProofs -dsimp +contextual [-Bool.exists_bool, -Int.not_le, -Int.not_lt, -getElem?_pos, -List.getD_eq_getElem?_getD]
  have no : ∀ {H : Store}, ¬ (isCe d L = true ∧ 0 ≤ v ∧ v < d) → RLe Tryz.prog H (V.tup [V.agg [V.d (D.int IntKind.i64 0), V.nil], V.d (D.bool false)]) (oV (dropD d L v)) (oH (dropD d L v)) := fun h => by
    rw [dropD, if_neg h, oV_f (by simp [-Bool.exists_bool, -Int.not_le, -Int.not_lt, -getElem?_pos, -List.getD_eq_getElem?_getD]), oH_f (by simp [-Bool.exists_bool, -Int.not_le, -Int.not_lt, -getElem?_pos, -List.getD_eq_getElem?_getD])]
    exact RLe.emp (by simp [-Bool.exists_bool, -Int.not_le, -Int.not_lt, -getElem?_pos, -List.getD_eq_getElem?_getD])
  refine ⟨fun hc => ⟨fun h0 => no (by omega), fun h0 => ⟨fun h1 => no (by omega), fun h1 => ?_⟩⟩, fun hc => no (by simp [-Bool.exists_bool, -Int.not_le, -Int.not_lt, -getElem?_pos, -List.getD_eq_getElem?_getD, hc])⟩
  have hd := isCe_d hc
  have h16 := isCe_l hc
  have hL := isCe_a hc
  obtain ⟨v, rfl⟩ : ∃ n : Nat, v = n := ⟨v.toNat, by omega⟩
  have hv : (v : Int) < d := by omega
  rw [dropD, if_pos ⟨hc, by omega, hv⟩, Int.toNat_natCast]
  refine WP.loop mixed [] (fun i : Nat => ⟨tl [(1, I v), (2, .ptr (0, 0) 0), (4, .ptr (1, 0) 0), (6, .ref (6, 0) ((L.take i).filter (free v)).length), (31, As L), (32, I L.length), (33, I i)], hl [((0, 0), .box [I d, As L]), ((1, 0), .box [I 0, .nil]), ((6, 0), .row 66 ((L.take i).filter (free v)).length (dl (asD ((L.take i).filter (free v)))))], 7⟩) (fun i => i ≤ L.length) (fun i => L.length - i) 0 (by kernel_rfl) ?_ ?_ ?_
  · refine Le.trans (Le.nil 6 66 (by simp [-Bool.exists_bool, -Int.not_le, -Int.not_lt, -getElem?_pos, -List.getD_eq_getElem?_getD])) (Le.told [((6, 0), (22, 0))] ?_ ?_ ?_) <;> simp [-Bool.exists_bool, -Int.not_le, -Int.not_lt, -getElem?_pos, -List.getD_eq_getElem?_getD, setH, asD]
  · simp [-Bool.exists_bool, -Int.not_le, -Int.not_lt, -getElem?_pos, -List.getD_eq_getElem?_getD]
  · intro i hi
    by_cases h : i < L.length
    · have hn := hL _ (nth_mem h)
      have hvl : v < (nth L i).1.length := by have := hn.2; omega
      simp -implicitDefEqProofs -dsimp +contextual [-Bool.exists_bool, -Int.not_le, -Int.not_lt, -getElem?_pos, -List.getD_eq_getElem?_getD, h, hvl]
      have fl := List.length_filter_le (free v) (L.take i)
      have fl2 : (L.take i).length ≤ i := by simp [-Bool.exists_bool, -Int.not_le, -Int.not_lt, -getElem?_pos, -List.getD_eq_getElem?_getD]; omega
      refine ⟨fun hz => ⟨⟨by omega, by simp [-Bool.exists_bool, -Int.not_le, -Int.not_lt, -getElem?_pos, -List.getD_eq_getElem?_getD, maxLen]; omega⟩, i + 1, h, by omega, ?_⟩, fun hz => ⟨i + 1, h, by omega, ?_⟩⟩
      · have hf : free v (nth L i) = true := decide_eq_true hz
        have e : (L.take (i + 1)).filter (free v) = (L.take i).filter (free v) ++ [nth L i] := by rw [nth_take h, List.filter_append, List.filter_cons_of_pos hf]; rfl
        rw [wr (by omega) (by omega)]
        refine Le.told [((6, 0), (21, 0))] ?_ ?_ ?_ <;> simp [-Bool.exists_bool, -Int.not_le, -Int.not_lt, -getElem?_pos, -List.getD_eq_getElem?_getD, e, asD_append, asD_one, aD]
      · have hf : ¬ free v (nth L i) = true := fun e => hz (of_decide_eq_true e)
        have e : (L.take (i + 1)).filter (free v) = (L.take i).filter (free v) := by rw [nth_take h, List.filter_append, List.filter_cons_of_neg hf]; simp [-Bool.exists_bool, -Int.not_le, -Int.not_lt, -getElem?_pos, -List.getD_eq_getElem?_getD]
        rw [wr (by omega) (by omega)]
        refine Le.told [] ?_ ?_ ?_ <;> simp [-Bool.exists_bool, -Int.not_le, -Int.not_lt, -getElem?_pos, -List.getD_eq_getElem?_getD, e]
    · obtain rfl : i = L.length := by omega
      simp -implicitDefEqProofs -dsimp +contextual [-Bool.exists_bool, -Int.not_le, -Int.not_lt, -getElem?_pos, -List.getD_eq_getElem?_getD, h]
      refine WP.loopF mixed [] (fun p : Nat × List At => ⟨tl [(1, I v), (2, .ptr (0, 0) 0), (4, .ptr (1, 0) 0), (6, .ref (6, 0) p.2.length), (49, As L), (50, I L.length), (51, I p.1)], hl [((0, 0), .box [I d, As L]), ((1, 0), .box [I 0, .nil]), ((6, 0), .row 66 p.2.length (dl (asD p.2)))], 7⟩)
        (fun p => p.1 ≤ L.length ∧ allOk d p.2 ∧ p.2.length ≤ 16 + 16 * p.1 ∧ dropGo v L L (L.filter (free v)) = dropGo v L (L.drop p.1) p.2) (fun p => L.length - p.1) (0, L.filter (free v)) (by kernel_rfl) ?_ ?_ ?_
      · refine Le.told [] ?_ ?_ ?_ <;> simp [-Bool.exists_bool, -Int.not_le, -Int.not_lt, -getElem?_pos, -List.getD_eq_getElem?_getD]
      · have := List.length_filter_le (free v) L
        exact ⟨Nat.zero_le _, fun x hx => hL x (List.mem_filter.1 hx).1, by simp only; omega, rfl⟩
      · rintro ⟨i, acc⟩ ⟨hi, hac, hlen, he⟩
        simp only at hi hac hlen he
        by_cases h : i < L.length
        · refine ⟨_, Le.refl _ _ _, ?_⟩
          have hn := hL _ (nth_mem h)
          have hvl : v < (nth L i).1.length := by have := hn.2; omega
          simp -implicitDefEqProofs -dsimp +contextual [-Bool.exists_bool, -Int.not_le, -Int.not_lt, -getElem?_pos, -List.getD_eq_getElem?_getD, h, hvl]
          rw [nth_drop h, dropGo] at he
          refine ⟨fun hx => ⟨i + 1, acc, ⟨h, hac, by omega, ?_⟩, by omega, ?_⟩, fun hx => ?_⟩
          · have hx' : (nth L i).1.getD v 0 ≤ 0 := hx
            rw [he, if_pos hx']
          · rw [wr (by omega) (by omega)]
            refine Le.told [] ?_ ?_ ?_ <;> simp [-Bool.exists_bool, -Int.not_le, -Int.not_lt, -getElem?_pos, -List.getD_eq_getElem?_getD]
          have hx' : ¬ (nth L i).1.getD v 0 ≤ 0 := hx
          rw [if_neg hx'] at he
          refine WP.loop mixed [] (fun p : Nat × List At => ⟨tl [(1, I v), (2, .ptr (0, 0) 0), (4, .ptr (1, 0) 0), (6, .ref (6, 0) p.2.length), (10, .ptr (7, 0) 0), (49, As L), (50, I L.length), (51, I i), (62, As L), (63, I L.length), (64, I p.1)], hl [((0, 0), .box [I d, As L]), ((1, 0), .box [I 0, .nil]), ((6, 0), .row 66 p.2.length (dl (asD p.2))), ((7, 0), .box (aV (nth L i)))], 8⟩)
            (fun p => p.1 ≤ L.length ∧ allOk d p.2 ∧ p.2.length ≤ acc.length + p.1 ∧ dropGo v L L (L.filter (free v)) = (mixGo v (nth L i) (L.drop p.1) p.2).bind (dropGo v L (L.drop (i + 1)))) (fun p => L.length - p.1) (0, acc) (by kernel_rfl) ?_ ?_ ?_
          · refine Le.told [((7, 0), (10, 0))] ?_ ?_ ?_ <;> simp [-Bool.exists_bool, -Int.not_le, -Int.not_lt, -getElem?_pos, -List.getD_eq_getElem?_getD]
          · exact ⟨Nat.zero_le _, hac, by simp [-Bool.exists_bool, -Int.not_le, -Int.not_lt, -getElem?_pos, -List.getD_eq_getElem?_getD], he⟩
          · rintro ⟨j, acc2⟩ ⟨hj, hac2, hlen2, he2⟩
            simp only at hj hac2 hlen2 he2
            by_cases h2 : j < L.length
            · have hm := hL _ (nth_mem h2)
              have hvm : v < (nth L j).1.length := by have := hm.2; omega
              simp -implicitDefEqProofs -dsimp +contextual [-Bool.exists_bool, -Int.not_le, -Int.not_lt, -getElem?_pos, -List.getD_eq_getElem?_getD, h, hvl, h2, hvm]
              rw [nth_drop h2, mixGo] at he2
              refine ⟨fun hy => ⟨j + 1, acc2, ⟨h2, hac2, by omega, ?_⟩, by omega, ?_⟩, fun hy => ?_⟩
              · have hy' : 0 ≤ (nth L j).1.getD v 0 := hy
                rw [he2, if_pos hy']
              · rw [wr (by omega) (by omega)]
                refine Le.told [] ?_ ?_ ?_ <;> simp [-Bool.exists_bool, -Int.not_le, -Int.not_lt, -getElem?_pos, -List.getD_eq_getElem?_getD]
              · have ci : nth (nth L i).1 v = (nth L i).1.getD v 0 := rfl
                have cj : nth (nth L j).1 v = (nth L j).1.getD v 0 := rfl
                have bj := coef_bd hm v
                have bi := coef_bd hn v
                rw [ci, cj, wr (by omega) (by omega)]
                refine CallJ.pure (iMixAtoms (nth L i) (-(nth L j).1.getD v 0) (nth L j) ((nth L i).1.getD v 0)) rfl (by simp [-Bool.exists_bool, -Int.not_le, -Int.not_lt, -getElem?_pos, -List.getD_eq_getElem?_getD]) ?_
                simp -implicitDefEqProofs -dsimp +contextual [-Bool.exists_bool, -Int.not_le, -Int.not_lt, -getElem?_pos, -List.getD_eq_getElem?_getD]
                have hy' : ¬ 0 ≤ (nth L j).1.getD v 0 := hy
                rw [if_neg hy'] at he2
                have hok : (mixAt (nth L i).1 (nth L i).2.1 (nth L i).2.2 (-(nth L j).1.getD v 0) (nth L j).1 (nth L j).2.1 (nth L j).2.2 ((nth L i).1.getD v 0)).2.2.2 = true → _ := mixAt_ok hn hm
                generalize mixAt (nth L i).1 (nth L i).2.1 (nth L i).2.2 (-(nth L j).1.getD v 0) (nth L j).1 (nth L j).2.1 (nth L j).2.2 ((nth L i).1.getD v 0) = r at hok he2 ⊢
                obtain ⟨rc, rk, rs, ro⟩ := r
                simp only at hok he2 ⊢
                refine ⟨fun hf => ?_, fun ht => ?_⟩
                · have ho := hok hf
                  refine ⟨⟨by omega, by simp [-Bool.exists_bool, -Int.not_le, -Int.not_lt, -getElem?_pos, -List.getD_eq_getElem?_getD, maxLen]; omega⟩, j + 1, acc2 ++ [(rc, rk, rs)], ⟨h2, ?_, by simp [-Bool.exists_bool, -Int.not_le, -Int.not_lt, -getElem?_pos, -List.getD_eq_getElem?_getD]; omega, ?_⟩, by omega, ?_⟩
                  · intro x hx2
                    rcases List.mem_append.1 hx2 with hx2 | hx2
                    · exact hac2 x hx2
                    · obtain rfl := List.mem_singleton.1 hx2; exact ho
                  · rw [he2, if_pos hf]
                  · rw [wr (by omega) (by omega)]
                    refine Le.told [((6, 0), (44, 0))] ?_ ?_ ?_ <;> simp [-Bool.exists_bool, -Int.not_le, -Int.not_lt, -getElem?_pos, -List.getD_eq_getElem?_getD, asD_append, asD_one, aD]
                · have e : dropC d v L = (0, [], false) := by rw [dropC, he2, if_neg (by rw [ht]; simp [-Bool.exists_bool, -Int.not_le, -Int.not_lt, -getElem?_pos, -List.getD_eq_getElem?_getD])]; rfl
                  rw [e, oV_f (by simp [-Bool.exists_bool, -Int.not_le, -Int.not_lt, -getElem?_pos, -List.getD_eq_getElem?_getD]), oH_f (by simp [-Bool.exists_bool, -Int.not_le, -Int.not_lt, -getElem?_pos, -List.getD_eq_getElem?_getD])]
                  exact RLe.emp (by simp [-Bool.exists_bool, -Int.not_le, -Int.not_lt, -getElem?_pos, -List.getD_eq_getElem?_getD])
            · simp -implicitDefEqProofs -dsimp +contextual [-Bool.exists_bool, -Int.not_le, -Int.not_lt, -getElem?_pos, -List.getD_eq_getElem?_getD, h2]
              rw [drop_nil (by omega : L.length ≤ j)] at he2
              refine ⟨i + 1, acc2, ⟨h, hac2, by omega, ?_⟩, by omega, ?_⟩
              · rw [he2]; rfl
              · rw [wr (by omega) (by omega)]
                refine Le.told [] ?_ ?_ ?_ <;> simp [-Bool.exists_bool, -Int.not_le, -Int.not_lt, -getElem?_pos, -List.getD_eq_getElem?_getD]
        · obtain rfl : i = L.length := by omega
          rw [drop_nil (Nat.le_refl _)] at he
          have he' : dropGo v L L (L.filter (free v)) = some acc := he
          have ec : dropC d v L = limN d acc := by rw [dropC, he']
          refine ⟨⟨tl [(1, I v), (2, .ptr (0, 0) 0), (4, .ptr (1, 0) 0), (6, .ref (6, 0) acc.length), (49, As L), (50, I L.length), (51, I L.length)], hl [((0, 0), .box [I d, As L]), ((1, 0), .box [I 0, .nil]), ((6, 0), .fz acc.length (asD acc))], 7⟩, ?_, ?_⟩
          · refine Le.told [] ?_ ?_ ?_ <;> simp [-Bool.exists_bool, -Int.not_le, -Int.not_lt, -getElem?_pos, -List.getD_eq_getElem?_getD]
          simp -implicitDefEqProofs -dsimp +contextual [-Bool.exists_bool, -Int.not_le, -Int.not_lt, -getElem?_pos, -List.getD_eq_getElem?_getD, h]
          rw [ec]
          have hlim := iLimitedNormal d hd acc (by omega) hac
          by_cases hb : (limN d acc).2.2 = true
          · rw [oV_t hb, oH_t hb] at hlim ⊢
            refine CallJ.pure (ks := [(6, 0)]) hlim (by simp [-Bool.exists_bool, -Int.not_le, -Int.not_lt, -getElem?_pos, -List.getD_eq_getElem?_getD]) (by simp [-Bool.exists_bool, -Int.not_le, -Int.not_lt, -getElem?_pos, -List.getD_eq_getElem?_getD]) ?_
            simp -implicitDefEqProofs -dsimp +contextual [-Bool.exists_bool, -Int.not_le, -Int.not_lt, -getElem?_pos, -List.getD_eq_getElem?_getD, h]
            refine RLe.own (11, 0) (fun j => (11, j + 1)) (limN d acc).2.1 ?_ ?_ ?_ ?_ ?_
            · simp [-Bool.exists_bool, -Int.not_le, -Int.not_lt, -getElem?_pos, -List.getD_eq_getElem?_getD, invO]
            · simp [-Bool.exists_bool, -Int.not_le, -Int.not_lt, -getElem?_pos, -List.getD_eq_getElem?_getD, setH]
            · intro j hj; simp [-Bool.exists_bool, -Int.not_le, -Int.not_lt, -getElem?_pos, -List.getD_eq_getElem?_getD, setH, upOwn_j _ _ _ _ hj]
            · intro i j _ _; simp [-Bool.exists_bool, -Int.not_le, -Int.not_lt, -getElem?_pos, -List.getD_eq_getElem?_getD]
            · intro j _; simp [-Bool.exists_bool, -Int.not_le, -Int.not_lt, -getElem?_pos, -List.getD_eq_getElem?_getD]
          · rw [oV_f hb, oH_f hb] at hlim ⊢
            refine CallJ.pure (ks := [(6, 0)]) hlim (by simp [-Bool.exists_bool, -Int.not_le, -Int.not_lt, -getElem?_pos, -List.getD_eq_getElem?_getD]) (by simp [-Bool.exists_bool, -Int.not_le, -Int.not_lt, -getElem?_pos, -List.getD_eq_getElem?_getD]) ?_
            simp -implicitDefEqProofs -dsimp +contextual [-Bool.exists_bool, -Int.not_le, -Int.not_lt, -getElem?_pos, -List.getD_eq_getElem?_getD, h]
            exact RLe.emp (by simp [-Bool.exists_bool, -Int.not_le, -Int.not_lt, -getElem?_pos, -List.getD_eq_getElem?_getD])
end Go.Proofs.YtjknjekemolndaaGreat.ZL
namespace Go.Proofs.YtjknjekemolndaaGreat.ZL
open Go Go.Proofs.YtjknjekemolndaaGreat.Abs Go.Proofs.YtjknjekemolndaaGreat.Abs.Pl Go.RowKit Go.Proofs
set_option linter.unusedVariables false
set_option linter.unusedSimpArgs false
theorem iNormalW (d : Int) (hd : 0 ≤ d ∧ d ≤ 4) (L : List At) (h100 : L.length ≤ 100000) (hL : allOk d L) : Cn Tryz.prog 62 [I d, As L] (C1 d (nrm d L)) hemp := by
  refine Cn.freeze 2 (iNormalOf d hd L h100 hL) ?_
  simp only [lendT, lendV, List.map_cons, List.map_nil, joinO, own_lend, lendD_d]
theorem iDropW (d : Int) (v : Int) (L : List At) (h20 : L.length ≤ 1048576) : Cn Tryz.prog 14 [C1 d L, I v] (D2 (dropD d L v)) hemp := Cn.weak dropD_f (iDropVariable d v L h20)
def chain (d : Int) : Nat → List At → Option (List Ce)
  | 0, L => some [(d, L)]
  | n + 1, L => if (dropC d n L).2.2 = true then (chain d n (dropC d n L).2.1).map (· ++ [(d, L)]) else none
theorem chain_elim (d : Int) : ∀ (n : Nat) (L : List At), (chain d n L).map (fun Z => (nth Z 0).2) = elim d n L
  | 0, L => rfl
  | n + 1, L => by
    unfold chain elim
    by_cases h : (dropC d n L).2.2 = true
    · rw [if_pos h, if_pos h, ← chain_elim d n]
      cases hc : chain d n (dropC d n L).2.1 with
      | none => rfl
      | some Z =>
        have hz : 0 < Z.length := by
          cases n with
          | zero => unfold chain at hc; obtain rfl := Option.some.inj hc; simp [-Bool.exists_bool, -Int.not_le, -Int.not_lt, -getElem?_pos, -List.getD_eq_getElem?_getD]
          | succ n =>
            unfold chain at hc
            split at hc
            · cases h2 : chain d n (dropC d n (dropC d (n + 1) L).2.1).2.1 with
              | none => rw [h2] at hc; simp [-Bool.exists_bool, -Int.not_le, -Int.not_lt, -getElem?_pos, -List.getD_eq_getElem?_getD] at hc
              | some W => rw [h2] at hc; obtain rfl := Option.some.inj hc; simp [-Bool.exists_bool, -Int.not_le, -Int.not_lt, -getElem?_pos, -List.getD_eq_getElem?_getD]
            · simp [-Bool.exists_bool, -Int.not_le, -Int.not_lt, -getElem?_pos, -List.getD_eq_getElem?_getD] at hc
        simp [-Bool.exists_bool, -Int.not_le, -Int.not_lt, -getElem?_pos, -List.getD_eq_getElem?_getD, nth_app hz]
    · rw [if_neg h, if_neg h]; rfl
def projs (d : Int) (L : List At) : Option (List Ce) := if isCe d L = true then chain d d.toNat (nrm d L) else none
def pV (r : Option (List Ce)) : V := match r with
  | none => .tup [.nil, B false]
  | some Z => .tup [Cs Z, B true]
def zs (m : Nat) (d : Int) (R : List At) (Y : List Ce) : List Ce := List.replicate m (0, []) ++ (d, R) :: Y
theorem zs_nth (m : Nat) (d : Int) (R : List At) (Y : List Ce) : nth (zs m d R Y) m = (d, R) := by
  have := nth_eq (l := zs m d R Y) (i := m) (by simp [-Bool.exists_bool, -Int.not_le, -Int.not_lt, -getElem?_pos, -List.getD_eq_getElem?_getD, zs])
  rw [this]
  simp [-Bool.exists_bool, -Int.not_le, -Int.not_lt, -getElem?_pos, -List.getD_eq_getElem?_getD, zs]
theorem zs_len (m : Nat) (d : Int) (R : List At) (Y : List Ce) : (zs m d R Y).length = m + 1 + Y.length := by simp [-Bool.exists_bool, -Int.not_le, -Int.not_lt, -getElem?_pos, -List.getD_eq_getElem?_getD, zs]; omega
theorem zs_step (n : Nat) (d : Int) (R S : List At) (Y : List Ce) : (zs (n + 1) d R Y).take n ++ (d, S) :: (zs (n + 1) d R Y).drop (n + 1) = zs n d S ((d, R) :: Y) := by
  simp [-Bool.exists_bool, -Int.not_le, -Int.not_lt, -getElem?_pos, -List.getD_eq_getElem?_getD, zs, List.replicate_succ', List.take_append, List.drop_append]
theorem rep2_len (n : Nat) (a b : V) : (repV n [a, b]).length = n * 2 := by simp [-Bool.exists_bool, -Int.not_le, -Int.not_lt, -getElem?_pos, -List.getD_eq_getElem?_getD, repV]
theorem rep2_succ (n : Nat) (a b : V) : repV (n + 1) [a, b] = repV n [a, b] ++ [a, b] := by
  refine List.ext_getElem? fun i => ?_
  by_cases h : i < n * 2
  · rw [List.getElem?_append_left (by rw [rep2_len]; exact h)]
    have h2 : i < (n + 1) * 2 := by omega
    simp [-Bool.exists_bool, -Int.not_le, -Int.not_lt, -getElem?_pos, -List.getD_eq_getElem?_getD, repV, List.getElem?_range h, List.getElem?_range h2]
  · rw [List.getElem?_append_right (by rw [rep2_len]; omega), rep2_len]
    by_cases h0 : i = n * 2
    · subst h0; simp [-Bool.exists_bool, -Int.not_le, -Int.not_lt, -getElem?_pos, -List.getD_eq_getElem?_getD, repV, List.getElem?_range (show n * 2 < (n + 1) * 2 by omega)]
    · by_cases h1 : i = n * 2 + 1
      · subst h1
        have h2 : n * 2 + 1 < (n + 1) * 2 := by omega
        have h3 : (n * 2 + 1) % 2 = 1 := by omega
        have h4 : n * 2 + 1 - n * 2 = 1 := by omega
        simp [-Bool.exists_bool, -Int.not_le, -Int.not_lt, -getElem?_pos, -List.getD_eq_getElem?_getD, repV, List.getElem?_range h2, h3, h4]
      · rw [List.getElem?_eq_none (by rw [rep2_len]; omega), List.getElem?_eq_none (by simp [-Bool.exists_bool, -Int.not_le, -Int.not_lt, -getElem?_pos, -List.getD_eq_getElem?_getD]; omega)]
theorem rep2_VLes {H : Store} {inv : Key → Key} {nx : Nat} (d : Int) (R : List At) : ∀ n : Nat, VLes H inv nx (repV n [I 0, .nil] ++ [I d, As R]) (dl (csD (zs n d R [])))
  | 0 => by
    have : repV 0 [I 0, .nil] = [] := rfl
    rw [this]
    simp [-Bool.exists_bool, -Int.not_le, -Int.not_lt, -getElem?_pos, -List.getD_eq_getElem?_getD, zs, csD, cD, VLes, dl, VLe, asDz]
  | n + 1 => by
    have ih := rep2_VLes (H := H) (inv := inv) (nx := nx) d R n
    have e : repV (n + 1) [I 0, .nil] = [I 0, .nil] ++ repV n [I 0, .nil] := by
      clear ih
      induction n with
      | zero => rfl
      | succ n ih => rw [rep2_succ, ih, List.append_assoc, ← rep2_succ n, ← ih]
    rw [e]
    have e2 : dl (csD (zs (n + 1) d R [])) = V.d (.int .i64 0) :: V.d (.sl 0 []) :: dl (csD (zs n d R [])) := by rw [zs, List.replicate_succ, List.cons_append, csD_cons]; rfl
    rw [e2]
    simp [-Bool.exists_bool, -Int.not_le, -Int.not_lt, -getElem?_pos, -List.getD_eq_getElem?_getD, VLes, VLe, asDz, ih]
theorem csD_drop2 (L : List Ce) (i : Nat) : (csD L).drop (i * 2 + 2) = csD (L.drop (i + 1)) := by rw [← csD_dropE]; congr 1; omega
theorem iProjectionsOf (d : Int) (L : List At) (h20 : L.length ≤ 1048576) : Cn Tryz.prog 63 [C1 d L] (pV (projs d L)) hemp := by
  refine Cn.of [] mixed Tryz.func63 rfl Tryz.call63 (by kernel_rfl) rfl ?_
  simp -implicitDefEqProofs -dsimp +contextual [-Bool.exists_bool, -Int.not_le, -Int.not_lt, -getElem?_pos, -List.getD_eq_getElem?_getD, Tryz.f63]
  refine CallJ.pure (iIsCell d L h20) rfl (by simp [-Bool.exists_bool, -Int.not_le, -Int.not_lt, -getElem?_pos, -List.getD_eq_getElem?_getD]) ?_
  simp -implicitDefEqProofs -dsimp +contextual [-Bool.exists_bool, -Int.not_le, -Int.not_lt, -getElem?_pos, -List.getD_eq_getElem?_getD]
  refine ⟨fun hc => ?_, fun hc => ?_⟩
  rotate_left
  · rw [projs, if_neg (by rw [hc]; simp [-Bool.exists_bool, -Int.not_le, -Int.not_lt, -getElem?_pos, -List.getD_eq_getElem?_getD])]
    exact RLe.emp (by simp [-Bool.exists_bool, -Int.not_le, -Int.not_lt, -getElem?_pos, -List.getD_eq_getElem?_getD, pV])
  have hd := isCe_d hc
  have h16 := isCe_l hc
  have hL := isCe_a hc
  rw [projs, if_pos hc]
  obtain ⟨D, rfl⟩ : ∃ n : Nat, d = n := ⟨d.toNat, by omega⟩
  rw [wr (by omega) (by omega), Int.toNat_natCast]
  have e1 : ((D : Int) + 1).toNat = D + 1 := by omega
  rw [e1]
  refine ⟨⟨by omega, by omega, by simp [-Bool.exists_bool, -Int.not_le, -Int.not_lt, -getElem?_pos, -List.getD_eq_getElem?_getD, maxLen]; omega⟩, ?_⟩
  rw [rep2_succ]
  refine CallJ.pure (iNormalW D hd L (by omega) hL) rfl (by simp [-Bool.exists_bool, -Int.not_le, -Int.not_lt, -getElem?_pos, -List.getD_eq_getElem?_getD]) ?_
  simp -implicitDefEqProofs -dsimp +contextual [-Bool.exists_bool, -Int.not_le, -Int.not_lt, -getElem?_pos, -List.getD_eq_getElem?_getD, rep2_len]
  refine ⟨by omega, ?_⟩
  have hD : D ≤ 4 := by omega
  refine WP.loopF mixed [] (fun p : Nat × List At × List Ce => ⟨tl [(4, .ref (9, 0) (D + 1)), (5, I ((p.1 : Int) - 1))], hl [((9, 0), .row 26 (D + 1) (dl (csD (zs p.1 D p.2.1 p.2.2))))], 10⟩)
    (fun p => p.1 + p.2.2.length = D ∧ p.2.1.length ≤ 16 ∧ allOk D p.2.1 ∧ chain D D (nrm D L) = (chain D p.1 p.2.1).map (· ++ p.2.2)) (fun p => p.1) (D, nrm D L, []) (by kernel_rfl) ?_ ?_ ?_
  · rw [wr (by omega) (by omega)]
    refine Le.told [] ?_ ?_ ?_ <;> simp [-Bool.exists_bool, -Int.not_le, -Int.not_lt, -getElem?_pos, -List.getD_eq_getElem?_getD, setH, rep2_len]
    have e2 : List.drop (D * 2 + 2) (repV D [V.d (.int .i64 0), V.nil] ++ [V.d (.int .i64 0), V.nil]) = [] := by simp [-Bool.exists_bool, -Int.not_le, -Int.not_lt, -getElem?_pos, -List.getD_eq_getElem?_getD, rep2_len]
    rw [e2]
    exact rep2_VLes D (nrm D L) D
  · refine ⟨rfl, nrm_16 D L h16, nrm_okL hd hL, ?_⟩
    simp [-Bool.exists_bool, -Int.not_le, -Int.not_lt, -getElem?_pos, -List.getD_eq_getElem?_getD]
  · rintro ⟨m, R, Y⟩ ⟨hm, hR, hRa, he⟩
    simp only at hm hR hRa he
    cases m with
    | zero =>
      have he' : chain D D (nrm D L) = some (zs 0 D R Y) := by rw [he]; rfl
      rw [he']
      refine ⟨⟨tl [(4, .ref (9, 0) (D + 1)), (5, I (-1))], hl [((9, 0), .fz (D + 1) (csD (zs 0 D R Y)))], 10⟩, ?_, ?_⟩
      · refine Le.told [] ?_ ?_ ?_ <;> simp [-Bool.exists_bool, -Int.not_le, -Int.not_lt, -getElem?_pos, -List.getD_eq_getElem?_getD]
      simp -implicitDefEqProofs -dsimp +contextual [-Bool.exists_bool, -Int.not_le, -Int.not_lt, -getElem?_pos, -List.getD_eq_getElem?_getD]
      refine RLe.pure 2 ?_
      simp [-Bool.exists_bool, -Int.not_le, -Int.not_lt, -getElem?_pos, -List.getD_eq_getElem?_getD, pV, zs_len]
      omega
    | succ n =>
      refine ⟨_, Le.refl _ _ _, ?_⟩
      have e1 : ((n + 1 : Nat) : Int) - 1 = (n : Int) := by omega
      have hzl := zs_len (n + 1) D R Y
      have hlt : n + 1 < (zs (n + 1) D R Y).length := by omega
      rw [e1]
      have hw : IntKind.wrap .i64 ((n : Int) + 1) = (n : Int) + 1 := wr (by omega) (by omega)
      have ht : ((n : Int) + 1).toNat = n + 1 := by omega
      simp -implicitDefEqProofs -dsimp +contextual [-Bool.exists_bool, -Int.not_le, -Int.not_lt, -getElem?_pos, -List.getD_eq_getElem?_getD, hw, ht, hlt, zs_nth]
      refine ⟨⟨by omega, by omega⟩, ?_⟩
      have hcR : isCe D R = true := okCe.2 ⟨hd, hR, hRa⟩
      have ed : dropD D R n = dropC D n R := by rw [dropD, if_pos ⟨hcR, by omega, by omega⟩, Int.toNat_natCast]
      refine CallJ.pure (iDropW D n R (by omega)) rfl (by simp [-Bool.exists_bool, -Int.not_le, -Int.not_lt, -getElem?_pos, -List.getD_eq_getElem?_getD]) ?_
      rw [ed]
      have hok := dropC_ok hd n hR hRa
      rw [chain] at he
      generalize dropC D n R = r at hok he ⊢
      obtain ⟨r1, r2, r3⟩ := r
      simp only at hok he ⊢
      have hst : n + 1 ≤ (zs (n + 1) D R Y).length := by omega
      simp -implicitDefEqProofs -dsimp +contextual [-Bool.exists_bool, -Int.not_le, -Int.not_lt, -getElem?_pos, -List.getD_eq_getElem?_getD]
      refine ⟨fun hf => ?_, fun hf => ?_⟩
      · obtain ⟨rfl, h1, h2⟩ := hok hf
        rw [if_pos hf] at he
        refine ⟨by omega, ?_⟩
        have hst2 : n * 2 + 2 ≤ (zs (n + 1) D R Y).length * 2 := by omega
        simp -implicitDefEqProofs -dsimp +contextual [-Bool.exists_bool, -Int.not_le, -Int.not_lt, -getElem?_pos, -List.getD_eq_getElem?_getD, hst2]
        refine ⟨n, r2, (D, R) :: Y, ⟨by simp [-Bool.exists_bool, -Int.not_le, -Int.not_lt, -getElem?_pos, -List.getD_eq_getElem?_getD]; omega, h1, h2, ?_⟩, by omega, ?_⟩
        · rw [he]
          cases chain D n r2 <;> simp [-Bool.exists_bool, -Int.not_le, -Int.not_lt, -getElem?_pos, -List.getD_eq_getElem?_getD]
        · rw [wr (by omega) (by omega)]
          refine Le.told [] ?_ ?_ ?_ <;> simp [-Bool.exists_bool, -Int.not_le, -Int.not_lt, -getElem?_pos, -List.getD_eq_getElem?_getD]
          rw [csD_drop2, ← zs_step n D R r2 Y, csD_append, csD_cons]
          rfl
      · rw [if_neg (by rw [hf]; simp [-Bool.exists_bool, -Int.not_le, -Int.not_lt, -getElem?_pos, -List.getD_eq_getElem?_getD])] at he
        rw [he]
        exact RLe.emp (by simp [-Bool.exists_bool, -Int.not_le, -Int.not_lt, -getElem?_pos, -List.getD_eq_getElem?_getD, pV])
theorem projs_empty (d : Int) (L : List At) : emptyC d L = match projs d L with
    | none => (false, false)
    | some Z => (decide (0 < (nth Z 0).2.length), true) := by
  unfold emptyC projs
  by_cases h : isCe d L = true
  · rw [if_pos h, if_pos h, ← chain_elim]
    cases chain d d.toNat (nrm d L) <;> rfl
  · rw [if_neg h, if_neg h]
theorem chain_pos {d : Int} : ∀ {n : Nat} {L : List At} {Z : List Ce}, chain d n L = some Z → Z.length = n + 1
  | 0, L, Z, h => by unfold chain at h; obtain rfl := Option.some.inj h; rfl
  | n + 1, L, Z, h => by
    unfold chain at h
    split at h
    · cases hc : chain d n (dropC d n L).2.1 with
      | none => rw [hc] at h; simp [-Bool.exists_bool, -Int.not_le, -Int.not_lt, -getElem?_pos, -List.getD_eq_getElem?_getD] at h
      | some W => rw [hc] at h; obtain rfl := Option.some.inj h; simp [-Bool.exists_bool, -Int.not_le, -Int.not_lt, -getElem?_pos, -List.getD_eq_getElem?_getD, chain_pos hc]
    · simp [-Bool.exists_bool, -Int.not_le, -Int.not_lt, -getElem?_pos, -List.getD_eq_getElem?_getD] at h
theorem iIsEmptyCell (d : Int) (L : List At) (h20 : L.length ≤ 1048576) : Cn Tryz.prog 19 [C1 d L] (B2 (emptyC d L)) hemp := by
  refine Cn.of [] mixed Tryz.func19 rfl Tryz.call19 (by kernel_rfl) rfl ?_
  simp -implicitDefEqProofs -dsimp +contextual [-Bool.exists_bool, -Int.not_le, -Int.not_lt, -getElem?_pos, -List.getD_eq_getElem?_getD, Tryz.f19]
  rw [projs_empty]
  have hp := iProjectionsOf d L h20
  cases hq : projs d L with
  | none =>
    rw [hq] at hp
    refine CallJ.pure hp rfl (by simp [-Bool.exists_bool, -Int.not_le, -Int.not_lt, -getElem?_pos, -List.getD_eq_getElem?_getD]) ?_
    simp -implicitDefEqProofs -dsimp +contextual [-Bool.exists_bool, -Int.not_le, -Int.not_lt, -getElem?_pos, -List.getD_eq_getElem?_getD, pV]
    exact RLe.pure 2 (by simp [-Bool.exists_bool, -Int.not_le, -Int.not_lt, -getElem?_pos, -List.getD_eq_getElem?_getD])
  | some Z =>
    rw [hq] at hp
    have hz : 0 < Z.length := by
      unfold projs at hq
      split at hq
      · rw [chain_pos hq]; omega
      · simp [-Bool.exists_bool, -Int.not_le, -Int.not_lt, -getElem?_pos, -List.getD_eq_getElem?_getD] at hq
    refine CallJ.pure hp rfl (by simp [-Bool.exists_bool, -Int.not_le, -Int.not_lt, -getElem?_pos, -List.getD_eq_getElem?_getD]) ?_
    have h1 : (csD Z)[1]? = some (.sl (nth Z 0).2.length (asD (nth Z 0).2)) := by simpa [-Bool.exists_bool, -Int.not_le, -Int.not_lt, -getElem?_pos, -List.getD_eq_getElem?_getD] using csD_get1 Z 0 hz
    simp -implicitDefEqProofs -dsimp +contextual [-Bool.exists_bool, -Int.not_le, -Int.not_lt, -getElem?_pos, -List.getD_eq_getElem?_getD, pV, hz, h1]
    refine RLe.pure 2 ?_
    simp [-Bool.exists_bool, -Int.not_le, -Int.not_lt, -getElem?_pos, -List.getD_eq_getElem?_getD]
end Go.Proofs.YtjknjekemolndaaGreat.ZL
namespace Go.Proofs.YtjknjekemolndaaGreat.ZL
open Go Go.Proofs.YtjknjekemolndaaGreat.Abs Go.Proofs.YtjknjekemolndaaGreat.Abs.Pl Go.RowKit Go.Proofs
set_option linter.unusedVariables false
set_option linter.unusedSimpArgs false
def lft (l : Int) (n : Nat) : Int := if l - n < 0 then -1 else l - n
def okL (l : Int) : Prop := 0 ≤ l ∧ l ≤ 1048576
theorem lft_neg {l : Int} {n : Nat} (h : l < n) : lft l n = -1 := if_pos (by omega)
theorem lft_pos {l : Int} {n : Nat} (h : ¬ l < n) : lft l n = l - n := if_neg (by omega)
theorem lft_ok {l : Int} {n : Nat} (hl : okL l) (h : ¬ lft l n < 0) : okL (lft l n) ∧ lft l n = l - n := by
  unfold lft at h ⊢
  unfold okL at hl ⊢
  split
  · rename_i h2; rw [if_pos h2] at h; omega
  · exact ⟨⟨by omega, by omega⟩, rfl⟩
theorem lft_lft {l : Int} {a b : Nat} (hl : okL l) (h : ¬ lft l a < 0) : lft l (a + b) = lft (lft l a) b := by
  obtain ⟨_, h2⟩ := lft_ok hl h
  rw [h2]; unfold lft
  rw [show l - ((a + b : Nat) : Int) = l - a - b by omega]
theorem lft_bad {l : Int} {a b : Nat} (hl : okL l) (h : lft l a < 0) : lft l (a + b) = -1 := by
  unfold lft at h ⊢
  unfold okL at hl
  split at h <;> split <;> omega
def wS {α : Type} (w : α → Nat) : List α → Nat
  | [] => 0
  | a :: l => w a + wS w l
def wA (a : At) : Nat := a.1.length
def wAs (L : List At) : Nat := L.length + wS wA L
def wC (c : Ce) : Nat := wAs c.2
def wCs (L : List Ce) : Nat := L.length + wS wC L
def wfA (a : At) : Prop := a.1.length ≤ maxLen
def wfAs (L : List At) : Prop := L.length ≤ maxLen ∧ ∀ a ∈ L, wfA a
def wfC (c : Ce) : Prop := wfAs c.2
def wfCs (L : List Ce) : Prop := L.length ≤ maxLen ∧ ∀ c ∈ L, wfC c
theorem szIntS (l : List Int) (k : Int) (hk : okL k) (hl : l.length ≤ maxLen) : Cn Tryz.prog 187 [Is l, I k] (I (lft k l.length)) hemp := by
  refine Cn.of [] mixed Tryz.func187 rfl Tryz.call187 (by kernel_rfl) rfl ?_
  simp -implicitDefEqProofs -dsimp +contextual [-Bool.exists_bool, -Int.not_le, -Int.not_lt, -getElem?_pos, -List.getD_eq_getElem?_getD, Tryz.f187]
  obtain ⟨h1, h2⟩ := hk
  unfold maxLen at hl
  rw [wr (by omega) (by omega)]
  refine ⟨fun h => RLe.ii ?_, fun h => RLe.ii ?_⟩
  · rw [lft_neg (by omega)]
  · rw [lft_pos (by omega)]
theorem szAtom (a : At) (k : Int) (hk : okL k) (hl : wfA a) : Cn Tryz.prog 178 [A1 a, I k] (I (lft k (wA a))) hemp := by
  refine Cn.of [] mixed Tryz.func178 rfl Tryz.call178 (by kernel_rfl) rfl ?_
  simp -implicitDefEqProofs -dsimp +contextual [-Bool.exists_bool, -Int.not_le, -Int.not_lt, -getElem?_pos, -List.getD_eq_getElem?_getD, Tryz.f178]
  refine CallJ.pure (szIntS a.1 k hk hl) rfl (by simp [-Bool.exists_bool, -Int.not_le, -Int.not_lt, -getElem?_pos, -List.getD_eq_getElem?_getD]) ?_
  simp -implicitDefEqProofs -dsimp +contextual [-Bool.exists_bool, -Int.not_le, -Int.not_lt, -getElem?_pos, -List.getD_eq_getElem?_getD]
  refine ⟨fun h => RLe.ii ?_, fun h => RLe.ii rfl⟩
  have : lft k a.1.length < 0 := h
  unfold okL at hk
  unfold lft at this ⊢
  unfold wA
  split at this <;> split <;> omega
theorem szAtomS (L : List At) (k : Int) (hk : okL k) (hl : wfAs L) : Cn Tryz.prog 154 [As L, I k] (I (lft k (wAs L))) hemp := by
  obtain ⟨hl1, hl2⟩ := hl
  refine Cn.of [] mixed Tryz.func154 rfl Tryz.call154 (by kernel_rfl) rfl ?_
  simp -implicitDefEqProofs -dsimp +contextual [-Bool.exists_bool, -Int.not_le, -Int.not_lt, -getElem?_pos, -List.getD_eq_getElem?_getD, Tryz.f154]
  have hl1' := hl1
  unfold maxLen at hl1'
  have hk' := hk
  obtain ⟨h1, h2⟩ := hk'
  rw [wr (by omega) (by omega)]
  refine ⟨fun h => RLe.ii ?_, fun h => ?_⟩
  · rw [wAs, lft_bad hk (by rw [lft_neg (by omega)]; omega)]
  have h0 : ¬ lft k L.length < 0 := by rw [lft_pos (by omega)]; omega
  have e0 : lft k L.length = k - L.length := lft_pos (by omega)
  refine WP.loop mixed [] (fun p : Nat × Int => ⟨tl [(0, As L), (1, I p.2), (5, I p.1)], hl [], 1⟩) (fun p => p.1 ≤ L.length ∧ okL p.2 ∧ lft k (wAs L) = lft p.2 (wS wA (L.drop p.1))) (fun p => L.length - p.1) (0, lft k L.length) (by kernel_rfl) ?_ ?_ ?_
  · rw [e0]; refine Le.told [] ?_ ?_ ?_ <;> simp [-Bool.exists_bool, -Int.not_le, -Int.not_lt, -getElem?_pos, -List.getD_eq_getElem?_getD]
  · exact ⟨Nat.zero_le _, (lft_ok hk h0).1, lft_lft hk h0⟩
  · rintro ⟨i, c⟩ ⟨hi, hc, he⟩
    simp only at hi hc he
    simp -implicitDefEqProofs -dsimp +contextual [-Bool.exists_bool, -Int.not_le, -Int.not_lt, -getElem?_pos, -List.getD_eq_getElem?_getD]
    refine ⟨fun h => ?_, fun h => ?_⟩
    · refine CallJ.pure (szAtom (nth L i) c hc (hl2 _ (nth_mem h))) rfl (by simp [-Bool.exists_bool, -Int.not_le, -Int.not_lt, -getElem?_pos, -List.getD_eq_getElem?_getD]) ?_
      simp -implicitDefEqProofs -dsimp +contextual [-Bool.exists_bool, -Int.not_le, -Int.not_lt, -getElem?_pos, -List.getD_eq_getElem?_getD, h]
      rw [nth_drop h, wS] at he
      refine ⟨fun hn => RLe.ii ?_, fun hn => ?_⟩
      · rw [he, lft_bad hc hn]
      · refine ⟨i + 1, _, ⟨h, (lft_ok hc hn).1, by rw [he, lft_lft hc hn]⟩, by omega, ?_⟩
        rw [wr (by omega) (by omega)]
        refine Le.told [] ?_ ?_ ?_ <;> simp [-Bool.exists_bool, -Int.not_le, -Int.not_lt, -getElem?_pos, -List.getD_eq_getElem?_getD]
    · rw [drop_nil (by omega)] at he
      refine RLe.ii ?_
      rw [he]
      unfold okL at hc
      rw [wS, lft_pos (by omega)]; simp [-Bool.exists_bool, -Int.not_le, -Int.not_lt, -getElem?_pos, -List.getD_eq_getElem?_getD]
end Go.Proofs.YtjknjekemolndaaGreat.ZL
namespace Go.Proofs.YtjknjekemolndaaGreat.ZL
open Go Go.Proofs.YtjknjekemolndaaGreat.Abs Go.Proofs.YtjknjekemolndaaGreat.Abs.Pl Go.RowKit Go.Proofs
set_option linter.unusedVariables false
set_option linter.unusedSimpArgs false
theorem szCell (c : Ce) (k : Int) (hk : okL k) (hl : wfC c) : Cn Tryz.prog 118 [.agg (cV c), I k] (I (lft k (wC c))) hemp := by
  refine Cn.of [] mixed Tryz.func118 rfl Tryz.call118 (by kernel_rfl) rfl ?_
  simp -implicitDefEqProofs -dsimp +contextual [-Bool.exists_bool, -Int.not_le, -Int.not_lt, -getElem?_pos, -List.getD_eq_getElem?_getD, Tryz.f118]
  refine CallJ.pure (szAtomS c.2 k hk hl) rfl (by simp [-Bool.exists_bool, -Int.not_le, -Int.not_lt, -getElem?_pos, -List.getD_eq_getElem?_getD]) ?_
  simp -implicitDefEqProofs -dsimp +contextual [-Bool.exists_bool, -Int.not_le, -Int.not_lt, -getElem?_pos, -List.getD_eq_getElem?_getD]
  refine ⟨fun h => RLe.ii ?_, fun h => RLe.ii rfl⟩
  have : lft k (wAs c.2) < 0 := h
  unfold okL at hk
  unfold lft at this ⊢
  unfold wC
  split at this <;> split <;> omega
theorem szCellS (L : List Ce) (k : Int) (hk : okL k) (hl : wfCs L) : Cn Tryz.prog 72 [Cs L, I k] (I (lft k (wCs L))) hemp := by
  obtain ⟨hl1, hl2⟩ := hl
  refine Cn.of [] mixed Tryz.func72 rfl Tryz.call72 (by kernel_rfl) rfl ?_
  simp -implicitDefEqProofs -dsimp +contextual [-Bool.exists_bool, -Int.not_le, -Int.not_lt, -getElem?_pos, -List.getD_eq_getElem?_getD, Tryz.f72]
  have hl1' := hl1
  unfold maxLen at hl1'
  have hk' := hk
  obtain ⟨h1, h2⟩ := hk'
  rw [wr (by omega) (by omega)]
  refine ⟨fun h => RLe.ii ?_, fun h => ?_⟩
  · rw [wCs, lft_bad hk (by rw [lft_neg (by omega)]; omega)]
  have h0 : ¬ lft k L.length < 0 := by rw [lft_pos (by omega)]; omega
  have e0 : lft k L.length = k - L.length := lft_pos (by omega)
  refine WP.loop mixed [] (fun p : Nat × Int => ⟨tl [(0, Cs L), (1, I p.2), (5, I p.1)], hl [], 1⟩) (fun p => p.1 ≤ L.length ∧ okL p.2 ∧ lft k (wCs L) = lft p.2 (wS wC (L.drop p.1))) (fun p => L.length - p.1) (0, lft k L.length) (by kernel_rfl) ?_ ?_ ?_
  · rw [e0]; refine Le.told [] ?_ ?_ ?_ <;> simp [-Bool.exists_bool, -Int.not_le, -Int.not_lt, -getElem?_pos, -List.getD_eq_getElem?_getD]
  · exact ⟨Nat.zero_le _, (lft_ok hk h0).1, lft_lft hk h0⟩
  · rintro ⟨i, c⟩ ⟨hi, hc, he⟩
    simp only at hi hc he
    simp -implicitDefEqProofs -dsimp +contextual [-Bool.exists_bool, -Int.not_le, -Int.not_lt, -getElem?_pos, -List.getD_eq_getElem?_getD]
    refine ⟨fun h => ?_, fun h => ?_⟩
    · refine CallJ.pure (szCell (nth L i) c hc (hl2 _ (nth_mem h))) rfl (by simp [-Bool.exists_bool, -Int.not_le, -Int.not_lt, -getElem?_pos, -List.getD_eq_getElem?_getD]) ?_
      simp -implicitDefEqProofs -dsimp +contextual [-Bool.exists_bool, -Int.not_le, -Int.not_lt, -getElem?_pos, -List.getD_eq_getElem?_getD, h]
      rw [nth_drop h, wS] at he
      refine ⟨fun hn => RLe.ii ?_, fun hn => ?_⟩
      · rw [he, lft_bad hc hn]
      · refine ⟨i + 1, _, ⟨h, (lft_ok hc hn).1, by rw [he, lft_lft hc hn]⟩, by omega, ?_⟩
        rw [wr (by omega) (by omega)]
        refine Le.told [] ?_ ?_ ?_ <;> simp [-Bool.exists_bool, -Int.not_le, -Int.not_lt, -getElem?_pos, -List.getD_eq_getElem?_getD]
    · rw [drop_nil (by omega)] at he
      refine RLe.ii ?_
      rw [he]
      unfold okL at hc
      rw [wS, lft_pos (by omega)]; simp [-Bool.exists_bool, -Int.not_le, -Int.not_lt, -getElem?_pos, -List.getD_eq_getElem?_getD]
theorem szRegion (d : Int) (L : List Ce) (k : Int) (hk : okL k) (hl : wfCs L) : Cn Tryz.prog 25 [R1 d L, I k] (I (lft k (wCs L))) hemp := by
  refine Cn.of [] mixed Tryz.func25 rfl Tryz.call25 (by kernel_rfl) rfl ?_
  simp -implicitDefEqProofs -dsimp +contextual [-Bool.exists_bool, -Int.not_le, -Int.not_lt, -getElem?_pos, -List.getD_eq_getElem?_getD, Tryz.f25]
  refine CallJ.pure (szCellS L k hk hl) rfl (by simp [-Bool.exists_bool, -Int.not_le, -Int.not_lt, -getElem?_pos, -List.getD_eq_getElem?_getD]) ?_
  simp -implicitDefEqProofs -dsimp +contextual [-Bool.exists_bool, -Int.not_le, -Int.not_lt, -getElem?_pos, -List.getD_eq_getElem?_getD]
  refine ⟨fun h => RLe.ii ?_, fun h => RLe.ii rfl⟩
  have : lft k (wCs L) < 0 := h
  unfold okL at hk
  unfold lft at this ⊢
  split at this <;> split <;> omega
def cpy (l : List Int) (i : Nat) : List Int := l.take i ++ List.replicate (l.length - i) 0
theorem cpy_len (l : List Int) (i : Nat) (h : i ≤ l.length) : (cpy l i).length = l.length := by simp [-Bool.exists_bool, -Int.not_le, -Int.not_lt, -getElem?_pos, -List.getD_eq_getElem?_getD, cpy]; omega
theorem cpy_set (l : List Int) (i : Nat) (h : i < l.length) : (cpy l i).set i (nth l i) = cpy l (i + 1) := by
  have e : l.length - i = (l.length - (i + 1)) + 1 := by omega
  unfold cpy
  rw [e, List.replicate_succ, nth_take h, List.set_append_right _ _ (by simp [-Bool.exists_bool, -Int.not_le, -Int.not_lt, -getElem?_pos, -List.getD_eq_getElem?_getD]; omega)]
  simp [-Bool.exists_bool, -Int.not_le, -Int.not_lt, -getElem?_pos, -List.getD_eq_getElem?_getD, Nat.min_eq_left (Nat.le_of_lt h)]
theorem cpy_end (l : List Int) : cpy l l.length = l := by simp [-Bool.exists_bool, -Int.not_le, -Int.not_lt, -getElem?_pos, -List.getD_eq_getElem?_getD, cpy]
theorem toIntS (l : List Int) (h20 : l.length ≤ 1048576) : Cn Tryz.prog 188 [Is l] (.ref (0, 0) l.length) (hl [((0, 0), .row 3 l.length (dl (l.map (.int .i64))))]) := by
  refine Cn.of [] mixed Tryz.func188 rfl Tryz.call188 (by kernel_rfl) rfl ?_
  simp -implicitDefEqProofs -dsimp +contextual [-Bool.exists_bool, -Int.not_le, -Int.not_lt, -getElem?_pos, -List.getD_eq_getElem?_getD, Tryz.f188]
  refine ⟨⟨by omega, by simp [-Bool.exists_bool, -Int.not_le, -Int.not_lt, -getElem?_pos, -List.getD_eq_getElem?_getD, maxLen]; omega⟩, ?_⟩
  refine WP.loop mixed [] (fun i : Nat => ⟨tl [(0, Is l), (3, .ref (3, 0) l.length), (4, I i)], hl [((3, 0), .row 3 l.length (dl ((cpy l i).map (.int .i64))))], 4⟩) (fun i => i ≤ l.length) (fun i => l.length - i) 0 (by kernel_rfl) ?_ ?_ ?_
  · refine Le.told [] ?_ ?_ ?_ <;> simp [-Bool.exists_bool, -Int.not_le, -Int.not_lt, -getElem?_pos, -List.getD_eq_getElem?_getD, cpy]
  · simp [-Bool.exists_bool, -Int.not_le, -Int.not_lt, -getElem?_pos, -List.getD_eq_getElem?_getD]
  · intro i hi
    by_cases h : i < l.length
    · have h1 : i + 1 ≤ (cpy l i).length := by rw [cpy_len l i hi]; exact h
      simp -implicitDefEqProofs -dsimp +contextual [-Bool.exists_bool, -Int.not_le, -Int.not_lt, -getElem?_pos, -List.getD_eq_getElem?_getD, h, h1]
      refine ⟨i + 1, h, by omega, ?_⟩
      rw [wr (by omega) (by omega)]
      refine Le.told [] ?_ ?_ ?_ <;> simp [-Bool.exists_bool, -Int.not_le, -Int.not_lt, -getElem?_pos, -List.getD_eq_getElem?_getD]
      rw [← cpy_set l i h, List.map_set, List.set_eq_take_append_cons_drop, if_pos (by rw [List.length_map]; exact h1)]
    · obtain rfl : i = l.length := by omega
      simp -implicitDefEqProofs -dsimp +contextual [-Bool.exists_bool, -Int.not_le, -Int.not_lt, -getElem?_pos, -List.getD_eq_getElem?_getD, h]
      refine RLe.told [((0, 0), (3, 0))] ?_ ?_ ?_ <;> simp [-Bool.exists_bool, -Int.not_le, -Int.not_lt, -getElem?_pos, -List.getD_eq_getElem?_getD, cpy_end]
theorem toAtom (a : At) (h : a.1.length ≤ 1048576) : Cn Tryz.prog 179 [A1 a] (.agg [.ref (0, 0) a.1.length, I a.2.1, B a.2.2]) (hl [((0, 0), .row 3 a.1.length (dl (a.1.map (.int .i64))))]) := by
  refine Cn.of [] mixed Tryz.func179 rfl Tryz.call179 (by kernel_rfl) rfl ?_
  simp -implicitDefEqProofs -dsimp +contextual [-Bool.exists_bool, -Int.not_le, -Int.not_lt, -getElem?_pos, -List.getD_eq_getElem?_getD, Tryz.f179]
  refine CallJ.pure (toIntS a.1 h) rfl (by simp [-Bool.exists_bool, -Int.not_le, -Int.not_lt, -getElem?_pos, -List.getD_eq_getElem?_getD]) ?_
  simp -implicitDefEqProofs -dsimp +contextual [-Bool.exists_bool, -Int.not_le, -Int.not_lt, -getElem?_pos, -List.getD_eq_getElem?_getD]
  refine RLe.told [((0, 0), (5, 0))] ?_ ?_ ?_ <;> simp [-Bool.exists_bool, -Int.not_le, -Int.not_lt, -getElem?_pos, -List.getD_eq_getElem?_getD]
theorem repV_cons (n : Nat) (zc : List V) (hz : 0 < zc.length) : repV (n + 1) zc = zc ++ repV n zc := by
  refine List.ext_getElem? fun i => ?_
  have hm : (n + 1) * zc.length = n * zc.length + zc.length := Nat.succ_mul ..
  by_cases h : i < zc.length
  · rw [List.getElem?_append_left h]
    simp [-Bool.exists_bool, -Int.not_le, -Int.not_lt, -getElem?_pos, -List.getD_eq_getElem?_getD, repV, List.getElem?_range (show i < (n + 1) * zc.length by omega), Nat.mod_eq_of_lt h, List.getD_eq_getElem?_getD, List.getElem?_eq_getElem h]
  · rw [List.getElem?_append_right (by omega)]
    by_cases h2 : i - zc.length < n * zc.length
    · simp [-Bool.exists_bool, -Int.not_le, -Int.not_lt, -getElem?_pos, -List.getD_eq_getElem?_getD, repV, List.getElem?_range h2, List.getElem?_range (show i < (n + 1) * zc.length by omega), Nat.mod_eq_sub_mod (show i ≥ zc.length by omega)]
    · rw [List.getElem?_eq_none (by simp [-Bool.exists_bool, -Int.not_le, -Int.not_lt, -getElem?_pos, -List.getD_eq_getElem?_getD, repV]; omega), List.getElem?_eq_none (by simp [-Bool.exists_bool, -Int.not_le, -Int.not_lt, -getElem?_pos, -List.getD_eq_getElem?_getD, repV]; omega)]
abbrev zA : List V := [.nil, I 0, B false]
theorem rep3_len (n : Nat) : (repV n zA).length = n * 3 := by simp [-Bool.exists_bool, -Int.not_le, -Int.not_lt, -getElem?_pos, -List.getD_eq_getElem?_getD, repV]
theorem zVLes {H : Store} {inv : Key → Key} {nx : Nat} : ∀ n, VLes H inv nx (repV n zA) (repV n zA)
  | 0 => by simp [-Bool.exists_bool, -Int.not_le, -Int.not_lt, -getElem?_pos, -List.getD_eq_getElem?_getD, repV, VLes]
  | n + 1 => by rw [repV_cons _ zA (by simp [-Bool.exists_bool, -Int.not_le, -Int.not_lt, -getElem?_pos, -List.getD_eq_getElem?_getD])]; simp [-Bool.exists_bool, -Int.not_le, -Int.not_lt, -getElem?_pos, -List.getD_eq_getElem?_getD, VLes, VLe, asDz, zVLes n]
theorem toAtomS (L : List At) (h20 : L.length ≤ 1048576) (ha : ∀ a ∈ L, a.1.length ≤ 1048576) : Cn Tryz.prog 156 [As L] (.ref (0, 0) L.length) (ownR L) := by
  refine Cn.of [] mixed Tryz.func156 rfl Tryz.call156 (by kernel_rfl) rfl ?_
  simp -implicitDefEqProofs -dsimp +contextual [-Bool.exists_bool, -Int.not_le, -Int.not_lt, -getElem?_pos, -List.getD_eq_getElem?_getD, Tryz.f156]
  refine ⟨⟨by omega, by simp [-Bool.exists_bool, -Int.not_le, -Int.not_lt, -getElem?_pos, -List.getD_eq_getElem?_getD, maxLen]; omega⟩, ?_⟩
  refine WP.loop mixed [] (fun i : Nat => ⟨tl [(0, As L), (3, .ref (3, 0) L.length), (4, I i)], famS 2 (ownA (L.take i)) (hl [((3, 0), .row 66 L.length (rA (fun j => (2, j)) 0 (L.take i) ++ repV (L.length - i) zA))]), 4⟩) (fun i => i ≤ L.length) (fun i => L.length - i) 0 (by kernel_rfl) ?_ ?_ ?_
  · refine Le.fam 2 [] (fun _ => (0, 0)) [] ?_ ?_ ?_ ?_ ?_ ?_ <;> simp [-Bool.exists_bool, -Int.not_le, -Int.not_lt, -getElem?_pos, -List.getD_eq_getElem?_getD, invF, rA]
    exact zVLes _
  · simp [-Bool.exists_bool, -Int.not_le, -Int.not_lt, -getElem?_pos, -List.getD_eq_getElem?_getD]
  · intro i hi
    by_cases h : i < L.length
    · have e : L.length - i = (L.length - (i + 1)) + 1 := by omega
      have hT : (L.take i).length = i := by simp [-Bool.exists_bool, -Int.not_le, -Int.not_lt, -getElem?_pos, -List.getD_eq_getElem?_getD]; omega
      rw [e, repV_cons _ zA (by simp [-Bool.exists_bool, -Int.not_le, -Int.not_lt, -getElem?_pos, -List.getD_eq_getElem?_getD])]
      simp -implicitDefEqProofs -dsimp +contextual [-Bool.exists_bool, -Int.not_le, -Int.not_lt, -getElem?_pos, -List.getD_eq_getElem?_getD, h]
      refine CallJ.pure (toAtom (nth L i) (ha _ (nth_mem h))) rfl (by simp [-Bool.exists_bool, -Int.not_le, -Int.not_lt, -getElem?_pos, -List.getD_eq_getElem?_getD]) ?_
      have h2 : (i * 3 + 3 ≤ min i L.length * 3 + ((repV (L.length - (i + 1)) zA).length + 1 + 1 + 1)) = True := by simp [-Bool.exists_bool, -Int.not_le, -Int.not_lt, -getElem?_pos, -List.getD_eq_getElem?_getD]; omega
      have tk : ∀ X : List V, List.take (i * 3) (rA (fun j => (2, j)) 0 (L.take i) ++ X) = rA (fun j => (2, j)) 0 (L.take i) := fun X => List.take_left' (by rw [rA_len, hT])
      have dr : ∀ (a b c : V) (X : List V), List.drop (i * 3 + 3) (rA (fun j => (2, j)) 0 (L.take i) ++ a :: b :: c :: X) = X := fun a b c X => by
        have e3 : i * 3 + 3 - i * 3 = 3 := by omega
        rw [List.drop_append, rA_len, hT, e3, List.drop_of_length_le (by rw [rA_len, hT]; omega)]
        rfl
      simp -implicitDefEqProofs -dsimp +contextual [-Bool.exists_bool, -Int.not_le, -Int.not_lt, -getElem?_pos, -List.getD_eq_getElem?_getD, h, h2, tk, dr]
      refine ⟨i + 1, h, by omega, ?_⟩
      rw [nth_take h, wr (by omega) (by omega)]
      have hT2 : i = (L.take i).length := hT.symm
      refine Le.fam 2 (L.take i ++ [nth L i]) (fPush 2 (L.take i).length (14, 0)) [] ?_ ?_ ?_ ?_ (push_inj (by simp [-Bool.exists_bool, -Int.not_le, -Int.not_lt, -getElem?_pos, -List.getD_eq_getElem?_getD])) ?_
      · simp [-Bool.exists_bool, -Int.not_le, -Int.not_lt, -getElem?_pos, -List.getD_eq_getElem?_getD, invF]
      · simp [-Bool.exists_bool, -Int.not_le, -Int.not_lt, -getElem?_pos, -List.getD_eq_getElem?_getD, setH, ELe]
        have hmn : min i L.length = (L.take i).length := by simp [-Bool.exists_bool, -Int.not_le, -Int.not_lt, -getElem?_pos, -List.getD_eq_getElem?_getD]
        rw [hmn]
        have hv : ∀ H inv, VLes H inv 4 (rA (fun j => (2, j)) 0 (L.take i) ++ [.ref (14, 0) (nth L i).1.length, I (nth L i).2.1, B (nth L i).2.2]) (rA (fun j => (2, j)) 0 (L.take i ++ [nth L i])) → VLes H inv 4 (rA (fun j => (2, j)) 0 (L.take i) ++ .ref (14, 0) (nth L i).1.length :: I (nth L i).2.1 :: B (nth L i).2.2 :: repV (L.length - (i + 1)) zA) (rA (fun j => (2, j)) 0 (L.take i ++ [nth L i]) ++ repV (L.length - (i + 1)) zA) := fun H inv h => by
          have := VLes_app h (zVLes (L.length - (i + 1)))
          rw [List.append_assoc] at this
          exact this
        exact hv _ _ (push_VLes _ _ _ (by simp [-Bool.exists_bool, -Int.not_le, -Int.not_lt, -getElem?_pos, -List.getD_eq_getElem?_getD]))
      · simp [-Bool.exists_bool, -Int.not_le, -Int.not_lt, -getElem?_pos, -List.getD_eq_getElem?_getD]
      · exact push_F (fun j hj => by simp [-Bool.exists_bool, -Int.not_le, -Int.not_lt, -getElem?_pos, -List.getD_eq_getElem?_getD, setH, ownA_lt hj]) (by simp [-Bool.exists_bool, -Int.not_le, -Int.not_lt, -getElem?_pos, -List.getD_eq_getElem?_getD, setH, rowA])
      · intro j hj
        simp [-Bool.exists_bool, -Int.not_le, -Int.not_lt, -getElem?_pos, -List.getD_eq_getElem?_getD, fPush]
        split <;> simp [-Bool.exists_bool, -Int.not_le, -Int.not_lt, -getElem?_pos, -List.getD_eq_getElem?_getD]
    · obtain rfl : i = L.length := by omega
      simp -implicitDefEqProofs -dsimp +contextual [-Bool.exists_bool, -Int.not_le, -Int.not_lt, -getElem?_pos, -List.getD_eq_getElem?_getD, h]
      have e0 : repV 0 zA = [] := rfl
      refine RLe.own (3, 0) (fun j => (2, j)) L ?_ ?_ ?_ ?_ ?_
      · simp [-Bool.exists_bool, -Int.not_le, -Int.not_lt, -getElem?_pos, -List.getD_eq_getElem?_getD, invO]
      · simp [-Bool.exists_bool, -Int.not_le, -Int.not_lt, -getElem?_pos, -List.getD_eq_getElem?_getD, e0]
      · intro j hj; simp [-Bool.exists_bool, -Int.not_le, -Int.not_lt, -getElem?_pos, -List.getD_eq_getElem?_getD, ownA_lt hj]
      · intro i j _ _ h; injection h
      · intro j _; simp [-Bool.exists_bool, -Int.not_le, -Int.not_lt, -getElem?_pos, -List.getD_eq_getElem?_getD]
theorem toCell (c : Ce) (h20 : c.2.length ≤ 1048576) (ha : ∀ a ∈ c.2, a.1.length ≤ 1048576) : Cn Tryz.prog 121 [.agg (cV c)] (O1 c.1 c.2) (ownR c.2) := by
  refine Cn.of [] mixed Tryz.func121 rfl Tryz.call121 (by kernel_rfl) rfl ?_
  simp -implicitDefEqProofs -dsimp +contextual [-Bool.exists_bool, -Int.not_le, -Int.not_lt, -getElem?_pos, -List.getD_eq_getElem?_getD, Tryz.f121]
  refine CallJ.pure (toAtomS c.2 h20 ha) rfl (by simp [-Bool.exists_bool, -Int.not_le, -Int.not_lt, -getElem?_pos, -List.getD_eq_getElem?_getD]) ?_
  simp -implicitDefEqProofs -dsimp +contextual [-Bool.exists_bool, -Int.not_le, -Int.not_lt, -getElem?_pos, -List.getD_eq_getElem?_getD]
  exact RLe.pass 9 c.2 (by simp [-Bool.exists_bool, -Int.not_le, -Int.not_lt, -getElem?_pos, -List.getD_eq_getElem?_getD, invO]) (by simp [-Bool.exists_bool, -Int.not_le, -Int.not_lt, -getElem?_pos, -List.getD_eq_getElem?_getD, setH]) (fun j hj => by simp [-Bool.exists_bool, -Int.not_le, -Int.not_lt, -getElem?_pos, -List.getD_eq_getElem?_getD, setH, upOwn_j _ _ _ _ hj])
theorem toCellW (c : Ce) (h20 : c.2.length ≤ 1048576) (ha : ∀ a ∈ c.2, a.1.length ≤ 1048576) : Cn Tryz.prog 121 [.agg (cV c)] (.agg (cV c)) hemp := by
  refine Cn.freeze 2 (toCell c h20 ha) ?_
  simp only [lendT, lendV, List.map_cons, List.map_nil, joinO, own_lend, lendD_d]
theorem zCVLes {H : Store} {inv : Key → Key} {nx : Nat} : ∀ n, VLes H inv nx (repV n [I 0, .nil]) (dl (csD (List.replicate n (0, []))))
  | 0 => by simp [-Bool.exists_bool, -Int.not_le, -Int.not_lt, -getElem?_pos, -List.getD_eq_getElem?_getD, repV, csD, VLes, dl_nil]
  | n + 1 => by
    have e : dl (csD (List.replicate (n + 1) (0, []))) = V.d (.int .i64 0) :: V.d (.sl 0 []) :: dl (csD (List.replicate n (0, []))) := by rw [List.replicate_succ, csD_cons]; rfl
    rw [repV_cons _ _ (by simp [-Bool.exists_bool, -Int.not_le, -Int.not_lt, -getElem?_pos, -List.getD_eq_getElem?_getD]), e]; simp [-Bool.exists_bool, -Int.not_le, -Int.not_lt, -getElem?_pos, -List.getD_eq_getElem?_getD, VLes, VLe, asDz, zCVLes n]
def cpyC (L : List Ce) (i : Nat) : List Ce := L.take i ++ List.replicate (L.length - i) (0, [])
theorem cpyC_len (L : List Ce) (i : Nat) (h : i ≤ L.length) : (cpyC L i).length = L.length := by simp [-Bool.exists_bool, -Int.not_le, -Int.not_lt, -getElem?_pos, -List.getD_eq_getElem?_getD, cpyC]; omega
theorem cpyC_set (L : List Ce) (i : Nat) (h : i < L.length) : (cpyC L i).take i ++ nth L i :: (cpyC L i).drop (i + 1) = cpyC L (i + 1) := by
  have e : L.length - i = (L.length - (i + 1)) + 1 := by omega
  have hm : min i L.length = i := by omega
  unfold cpyC
  rw [e, nth_take h, List.replicate_succ, List.take_append, List.drop_append]
  simp [-Bool.exists_bool, -Int.not_le, -Int.not_lt, -getElem?_pos, -List.getD_eq_getElem?_getD, hm, List.take_take]
theorem toCellS (L : List Ce) (h20 : L.length ≤ 1048576) (hc : ∀ c ∈ L, c.2.length ≤ 1048576 ∧ ∀ a ∈ c.2, a.1.length ≤ 1048576) : Cn Tryz.prog 74 [Cs L] (Cs L) hemp := by
  refine Cn.of [] mixed Tryz.func74 rfl Tryz.call74 (by kernel_rfl) rfl ?_
  simp -implicitDefEqProofs -dsimp +contextual [-Bool.exists_bool, -Int.not_le, -Int.not_lt, -getElem?_pos, -List.getD_eq_getElem?_getD, Tryz.f74]
  refine ⟨⟨by omega, by simp [-Bool.exists_bool, -Int.not_le, -Int.not_lt, -getElem?_pos, -List.getD_eq_getElem?_getD, maxLen]; omega⟩, ?_⟩
  refine WP.loop mixed [] (fun i : Nat => ⟨tl [(0, Cs L), (3, .ref (3, 0) L.length), (4, I i)], hl [((3, 0), .row 26 L.length (dl (csD (cpyC L i))))], 4⟩) (fun i => i ≤ L.length) (fun i => L.length - i) 0 (by kernel_rfl) ?_ ?_ ?_
  · have e0 : cpyC L 0 = List.replicate L.length (0, []) := by simp [-Bool.exists_bool, -Int.not_le, -Int.not_lt, -getElem?_pos, -List.getD_eq_getElem?_getD, cpyC]
    rw [e0]
    refine Le.told [] ?_ ?_ ?_
    · simp [-Bool.exists_bool, -Int.not_le, -Int.not_lt, -getElem?_pos, -List.getD_eq_getElem?_getD]
    · simp [-Bool.exists_bool, -Int.not_le, -Int.not_lt, -getElem?_pos, -List.getD_eq_getElem?_getD]
      exact zCVLes _
    · simp [-Bool.exists_bool, -Int.not_le, -Int.not_lt, -getElem?_pos, -List.getD_eq_getElem?_getD]
  · simp [-Bool.exists_bool, -Int.not_le, -Int.not_lt, -getElem?_pos, -List.getD_eq_getElem?_getD]
  · intro i hi
    by_cases h : i < L.length
    · have hl2 := cpyC_len L i hi
      have h2 : (i * 2 + 2 ≤ (cpyC L i).length * 2) = True := by simp [-Bool.exists_bool, -Int.not_le, -Int.not_lt, -getElem?_pos, -List.getD_eq_getElem?_getD]; omega
      simp -implicitDefEqProofs -dsimp +contextual [-Bool.exists_bool, -Int.not_le, -Int.not_lt, -getElem?_pos, -List.getD_eq_getElem?_getD, h]
      refine CallJ.pure (toCellW (nth L i) (hc _ (nth_mem h)).1 (hc _ (nth_mem h)).2) rfl (by simp [-Bool.exists_bool, -Int.not_le, -Int.not_lt, -getElem?_pos, -List.getD_eq_getElem?_getD]) ?_
      simp -implicitDefEqProofs -dsimp +contextual [-Bool.exists_bool, -Int.not_le, -Int.not_lt, -getElem?_pos, -List.getD_eq_getElem?_getD, h, h2]
      refine ⟨i + 1, h, by omega, ?_⟩
      rw [wr (by omega) (by omega)]
      refine Le.told [] ?_ ?_ ?_ <;> simp [-Bool.exists_bool, -Int.not_le, -Int.not_lt, -getElem?_pos, -List.getD_eq_getElem?_getD]
      rw [csD_drop2, ← cpyC_set L i h, csD_append, csD_cons]
      rfl
    · obtain rfl : i = L.length := by omega
      simp -implicitDefEqProofs -dsimp +contextual [-Bool.exists_bool, -Int.not_le, -Int.not_lt, -getElem?_pos, -List.getD_eq_getElem?_getD, h]
      refine RLe.pure 2 ?_
      simp [-Bool.exists_bool, -Int.not_le, -Int.not_lt, -getElem?_pos, -List.getD_eq_getElem?_getD, cpyC]
theorem toRegion (d : Int) (L : List Ce) (h20 : L.length ≤ 1048576) (hc : ∀ c ∈ L, c.2.length ≤ 1048576 ∧ ∀ a ∈ c.2, a.1.length ≤ 1048576) : Cn Tryz.prog 27 [R1 d L] (R1 d L) hemp := by
  refine Cn.of [] mixed Tryz.func27 rfl Tryz.call27 (by kernel_rfl) rfl ?_
  simp -implicitDefEqProofs -dsimp +contextual [-Bool.exists_bool, -Int.not_le, -Int.not_lt, -getElem?_pos, -List.getD_eq_getElem?_getD, Tryz.f27]
  refine CallJ.pure (toCellS L h20 hc) rfl (by simp [-Bool.exists_bool, -Int.not_le, -Int.not_lt, -getElem?_pos, -List.getD_eq_getElem?_getD]) ?_
  simp -implicitDefEqProofs -dsimp +contextual [-Bool.exists_bool, -Int.not_le, -Int.not_lt, -getElem?_pos, -List.getD_eq_getElem?_getD]
  exact RLe.pure 2 (by simp [-Bool.exists_bool, -Int.not_le, -Int.not_lt, -getElem?_pos, -List.getD_eq_getElem?_getD])
end Go.Proofs.YtjknjekemolndaaGreat.ZL
namespace Go.Proofs.YtjknjekemolndaaGreat.ZL
open Go Go.Proofs.YtjknjekemolndaaGreat.Abs Go.Proofs.YtjknjekemolndaaGreat.Abs.Pl Go.RowKit Go.Proofs
set_option linter.unusedVariables false
set_option linter.unusedSimpArgs false
theorem eqIntS (L : List Int) (h20 : L.length ≤ 1048576) : Cn Tryz.prog 189 [Is L, Is L] (B true) hemp := by
  refine Cn.of [] mixed Tryz.func189 rfl Tryz.call189 (by kernel_rfl) rfl ?_
  simp -implicitDefEqProofs -dsimp +contextual [-Bool.exists_bool, -Int.not_le, -Int.not_lt, -getElem?_pos, -List.getD_eq_getElem?_getD, Tryz.f189]
  refine WP.loop mixed [] (fun i : Nat => ⟨tl [(0, Is L), (1, Is L), (5, I i)], hl [], 1⟩) (fun i => i ≤ L.length) (fun i => L.length - i) 0 (by kernel_rfl) ?_ ?_ ?_
  · refine Le.told [] ?_ ?_ ?_ <;> simp [-Bool.exists_bool, -Int.not_le, -Int.not_lt, -getElem?_pos, -List.getD_eq_getElem?_getD]
  · simp [-Bool.exists_bool, -Int.not_le, -Int.not_lt, -getElem?_pos, -List.getD_eq_getElem?_getD]
  · intro i hi
    simp -implicitDefEqProofs -dsimp +contextual [-Bool.exists_bool, -Int.not_le, -Int.not_lt, -getElem?_pos, -List.getD_eq_getElem?_getD]
    refine ⟨fun h => ?_, fun h => RLe.bb rfl⟩
    refine ⟨i + 1, h, by omega, ?_⟩
    rw [wr (by omega) (by omega)]
    refine Le.told [] ?_ ?_ ?_ <;> simp [-Bool.exists_bool, -Int.not_le, -Int.not_lt, -getElem?_pos, -List.getD_eq_getElem?_getD]
theorem eqAtom (a : At) (h : a.1.length ≤ 1048576) : Cn Tryz.prog 180 [A1 a, A1 a] (B true) hemp := by
  refine Cn.of [] mixed Tryz.func180 rfl Tryz.call180 (by kernel_rfl) rfl ?_
  simp -implicitDefEqProofs -dsimp +contextual [-Bool.exists_bool, -Int.not_le, -Int.not_lt, -getElem?_pos, -List.getD_eq_getElem?_getD, Tryz.f180]
  refine CallJ.pure (eqIntS a.1 h) rfl (by simp [-Bool.exists_bool, -Int.not_le, -Int.not_lt, -getElem?_pos, -List.getD_eq_getElem?_getD]) ?_
  simp -implicitDefEqProofs -dsimp +contextual [-Bool.exists_bool, -Int.not_le, -Int.not_lt, -getElem?_pos, -List.getD_eq_getElem?_getD]
  exact RLe.bb rfl
theorem eqAtomS (L : List At) (h20 : L.length ≤ 1048576) (ha : ∀ a ∈ L, a.1.length ≤ 1048576) : Cn Tryz.prog 157 [As L, As L] (B true) hemp := by
  refine Cn.of [] mixed Tryz.func157 rfl Tryz.call157 (by kernel_rfl) rfl ?_
  simp -implicitDefEqProofs -dsimp +contextual [-Bool.exists_bool, -Int.not_le, -Int.not_lt, -getElem?_pos, -List.getD_eq_getElem?_getD, Tryz.f157]
  refine WP.loop mixed [] (fun i : Nat => ⟨tl [(0, As L), (1, As L), (5, I i)], hl [], 1⟩) (fun i => i ≤ L.length) (fun i => L.length - i) 0 (by kernel_rfl) ?_ ?_ ?_
  · refine Le.told [] ?_ ?_ ?_ <;> simp [-Bool.exists_bool, -Int.not_le, -Int.not_lt, -getElem?_pos, -List.getD_eq_getElem?_getD]
  · simp [-Bool.exists_bool, -Int.not_le, -Int.not_lt, -getElem?_pos, -List.getD_eq_getElem?_getD]
  · intro i hi
    simp -implicitDefEqProofs -dsimp +contextual [-Bool.exists_bool, -Int.not_le, -Int.not_lt, -getElem?_pos, -List.getD_eq_getElem?_getD]
    refine ⟨fun h => ?_, fun h => RLe.bb rfl⟩
    refine CallJ.pure (eqAtom (nth L i) (ha _ (nth_mem h))) rfl (by simp [-Bool.exists_bool, -Int.not_le, -Int.not_lt, -getElem?_pos, -List.getD_eq_getElem?_getD]) ?_
    simp -implicitDefEqProofs -dsimp +contextual [-Bool.exists_bool, -Int.not_le, -Int.not_lt, -getElem?_pos, -List.getD_eq_getElem?_getD, h]
    refine ⟨i + 1, h, by omega, ?_⟩
    rw [wr (by omega) (by omega)]
    refine Le.told [] ?_ ?_ ?_ <;> simp [-Bool.exists_bool, -Int.not_le, -Int.not_lt, -getElem?_pos, -List.getD_eq_getElem?_getD]
theorem eqCell (c : Ce) (h20 : c.2.length ≤ 1048576) (ha : ∀ a ∈ c.2, a.1.length ≤ 1048576) : Cn Tryz.prog 122 [.agg (cV c), .agg (cV c)] (B true) hemp := by
  refine Cn.of [] mixed Tryz.func122 rfl Tryz.call122 (by kernel_rfl) rfl ?_
  simp -implicitDefEqProofs -dsimp +contextual [-Bool.exists_bool, -Int.not_le, -Int.not_lt, -getElem?_pos, -List.getD_eq_getElem?_getD, Tryz.f122]
  refine CallJ.pure (eqAtomS c.2 h20 ha) rfl (by simp [-Bool.exists_bool, -Int.not_le, -Int.not_lt, -getElem?_pos, -List.getD_eq_getElem?_getD]) ?_
  simp -implicitDefEqProofs -dsimp +contextual [-Bool.exists_bool, -Int.not_le, -Int.not_lt, -getElem?_pos, -List.getD_eq_getElem?_getD]
  exact RLe.bb rfl
theorem eqCellS (L : List Ce) (h20 : L.length ≤ 1048576) (hc : ∀ c ∈ L, c.2.length ≤ 1048576 ∧ ∀ a ∈ c.2, a.1.length ≤ 1048576) : Cn Tryz.prog 77 [Cs L, Cs L] (B true) hemp := by
  refine Cn.of [] mixed Tryz.func77 rfl Tryz.call77 (by kernel_rfl) rfl ?_
  simp -implicitDefEqProofs -dsimp +contextual [-Bool.exists_bool, -Int.not_le, -Int.not_lt, -getElem?_pos, -List.getD_eq_getElem?_getD, Tryz.f77]
  refine WP.loop mixed [] (fun i : Nat => ⟨tl [(0, Cs L), (1, Cs L), (5, I i)], hl [], 1⟩) (fun i => i ≤ L.length) (fun i => L.length - i) 0 (by kernel_rfl) ?_ ?_ ?_
  · refine Le.told [] ?_ ?_ ?_ <;> simp [-Bool.exists_bool, -Int.not_le, -Int.not_lt, -getElem?_pos, -List.getD_eq_getElem?_getD]
  · simp [-Bool.exists_bool, -Int.not_le, -Int.not_lt, -getElem?_pos, -List.getD_eq_getElem?_getD]
  · intro i hi
    simp -implicitDefEqProofs -dsimp +contextual [-Bool.exists_bool, -Int.not_le, -Int.not_lt, -getElem?_pos, -List.getD_eq_getElem?_getD]
    refine ⟨fun h => ?_, fun h => RLe.bb rfl⟩
    refine CallJ.pure (eqCell (nth L i) (hc _ (nth_mem h)).1 (hc _ (nth_mem h)).2) rfl (by simp [-Bool.exists_bool, -Int.not_le, -Int.not_lt, -getElem?_pos, -List.getD_eq_getElem?_getD]) ?_
    simp -implicitDefEqProofs -dsimp +contextual [-Bool.exists_bool, -Int.not_le, -Int.not_lt, -getElem?_pos, -List.getD_eq_getElem?_getD, h]
    refine ⟨i + 1, h, by omega, ?_⟩
    rw [wr (by omega) (by omega)]
    refine Le.told [] ?_ ?_ ?_ <;> simp [-Bool.exists_bool, -Int.not_le, -Int.not_lt, -getElem?_pos, -List.getD_eq_getElem?_getD]
theorem eqRegion (d : Int) (L : List Ce) (h20 : L.length ≤ 1048576) (hc : ∀ c ∈ L, c.2.length ≤ 1048576 ∧ ∀ a ∈ c.2, a.1.length ≤ 1048576) : Cn Tryz.prog 29 [R1 d L, R1 d L] (B true) hemp := by
  refine Cn.of [] mixed Tryz.func29 rfl Tryz.call29 (by kernel_rfl) rfl ?_
  simp -implicitDefEqProofs -dsimp +contextual [-Bool.exists_bool, -Int.not_le, -Int.not_lt, -getElem?_pos, -List.getD_eq_getElem?_getD, Tryz.f29]
  refine CallJ.pure (eqCellS L h20 hc) rfl (by simp [-Bool.exists_bool, -Int.not_le, -Int.not_lt, -getElem?_pos, -List.getD_eq_getElem?_getD]) ?_
  simp -implicitDefEqProofs -dsimp +contextual [-Bool.exists_bool, -Int.not_le, -Int.not_lt, -getElem?_pos, -List.getD_eq_getElem?_getD]
  exact RLe.bb rfl
theorem wS_le {α : Type} {w : α → Nat} : ∀ {L : List α} {a : α}, a ∈ L → w a ≤ wS w L
  | b :: L, a, h => by
    rcases List.mem_cons.1 h with rfl | h
    · simp [-Bool.exists_bool, -Int.not_le, -Int.not_lt, -getElem?_pos, -List.getD_eq_getElem?_getD, wS]
    · have := wS_le (w := w) h; simp [-Bool.exists_bool, -Int.not_le, -Int.not_lt, -getElem?_pos, -List.getD_eq_getElem?_getD, wS]; omega
theorem wAs_small {L : List At} (h : wAs L ≤ 1048576) : L.length ≤ 1048576 ∧ ∀ a ∈ L, a.1.length ≤ 1048576 := by
  unfold wAs at h
  exact ⟨by omega, fun a ha => by have := wS_le (w := wA) ha; unfold wA at this h; omega⟩
theorem wCs_small {L : List Ce} (h : wCs L ≤ 1048576) : L.length ≤ 1048576 ∧ ∀ c ∈ L, c.2.length ≤ 1048576 ∧ ∀ a ∈ c.2, a.1.length ≤ 1048576 := by
  unfold wCs at h
  exact ⟨by omega, fun c hc => wAs_small (by have := wS_le (w := wC) hc; unfold wC at this h; omega)⟩
theorem lft_le {n : Nat} (h : ¬ lft 1048576 n < 0) : n ≤ 1048576 := by
  unfold lft at h
  split at h <;> omega
theorem ok20 : okL 1048576 := ⟨by omega, by omega⟩
end Go.Proofs.YtjknjekemolndaaGreat.ZL
