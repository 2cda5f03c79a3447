/- How an argument that can be read as data is one of the print's kinds: for whole numbers, bools, strings, slices and structs of these. -/
import Derived.Test.YtkicjflhokckgaaVFnExactIsEmptyCell
import Derived.WalkKit
import Derived.ProofKit
import Derived.OpenShut
import Derived.ShutString
import Derived.ChangeOld
import Derived.ChangeArms
import Derived.ChangeSlices
import Derived.Below
import Derived.SizedLaws
import Derived.Lib.SmallJoins
namespace Go.Proofs.Ytkicjflhokckgaa.Opn
open Go.RowKit Go.Proofs.YtkicjflhokckgaaW.PrintWords Go.Proofs.YtkicjflhokckgaaW.PrintLast Go.Proofs.YtkicjflhokckgaaW.PrintMore
open Go.ChangeShapes Go.WideShapes Go.ChangeAt
set_option linter.unusedVariables false

def Opens {α : Type} (P : Program) (k : Kd α) (wf : α → Prop) (t : TypeId) : Prop :=
  ∀ {H : Type} (enc : TypeId × Value → H) (w : World) (fuel : Nat) (cs : List Value) (y : DataW H × List MemPlace),
    DataW.trod enc P w 0 (fun _ => true) true fuel t cs = some y → ∃ x, k.K w x cs ∧ wf x

theorem opens_int {P : Program} {k : IntKind} {t : TypeId} (ht : P.underlying t = some (.int k)) : Opens P (Kd.int k) (fun n => (Lit.int k n).wf = true) t := by
  intro H enc w fuel cs y h
  obtain ⟨n, rfl, _, hw⟩ := DataW.trod_int ht h
  exact ⟨n, rfl, hw⟩

theorem opens_bool {P : Program} {t : TypeId} (ht : P.underlying t = some .bool) : Opens P Kd.bool (fun _ => True) t := by
  intro H enc w fuel cs y h
  obtain ⟨n, rfl, _⟩ := DataW.trod_bool ht h
  exact ⟨n, rfl, trivial⟩

theorem opens_string {P : Program} {t : TypeId} (ht : P.underlying t = some .string) : Opens P Kd.string (fun s => s.size ≤ maxLen) t := by
  intro H enc w fuel cs y h
  obtain ⟨n, rfl, _, hs⟩ := DataW.trod_string ht h
  exact ⟨n, rfl, hs⟩

theorem opens_iso {α β : Type} {P : Program} {k : Kd α} {wf : α → Prop} {t : TypeId} (f : β → α) (g : α → β) (hg : ∀ x, f (g x) = x) (h : Opens P k wf t) : Opens P (Kd.iso k f) (fun x => wf (f x)) t := by
  intro H enc w fuel cs y hy
  obtain ⟨x, hx, hw⟩ := h enc w fuel cs y hy
  exact ⟨g x, by show k.K w (f (g x)) cs; rw [hg]; exact hx, by show wf (f (g x)); rw [hg]; exact hw⟩

theorem exists_list {α : Type} (n : Nat) (p : Nat → α → Prop) (h : ∀ i, i < n → ∃ x, p i x) : ∃ l : List α, l.length = n ∧ ∀ i x, l[i]? = some x → p i x := by
  induction n with
  | zero => exact ⟨[], rfl, fun i x hx => by simp at hx⟩
  | succ n ih =>
    obtain ⟨l, hl, hp⟩ := ih (fun i hi => h i (by omega))
    obtain ⟨x, hx⟩ := h n (by omega)
    refine ⟨l ++ [x], by simp [hl], fun i y hy => ?_⟩
    by_cases hi : i < l.length
    · rw [List.getElem?_append_left hi] at hy
      exact hp i y hy
    · have hlt := (List.getElem?_eq_some_iff.1 hy).1
      simp only [List.length_append, List.length_singleton] at hlt
      obtain rfl : i = n := by omega
      rw [List.getElem?_append_right (by omega), hl] at hy
      simp at hy
      subst hy
      exact hx

theorem opens_slice {α : Type} {P : Program} {k : Kd α} {wf : α → Prop} {t e : TypeId} (ht : P.underlying t = some (.slice e)) (hs : P.cellsOf e = k.sz) (h : Opens P k wf e) : Opens P (Kd.slice e k) (fun xs => xs.length ≤ maxLen ∧ ∀ x ∈ xs, wf x) t := by
  intro H enc w fuel cs y hy
  rcases DataW.trod_slice ht hy with ⟨rfl, _⟩ | ⟨a, len, cap, elems, rest, n, _, rfl, _, hb, hl, hm, hlen, hel, _, _⟩
  · exact ⟨[], ⟨none, 0, rfl, Nat.le_refl _, Kd.C_nil k w⟩, by simp, by simp⟩
  · obtain ⟨l, hll, hp⟩ := exists_list len (fun i x => wf x ∧ ∃ c, w.cells? 0 (a.add (i * k.sz)) k.sz = some c ∧ k.K w x c) (by
      intro i hi
      have h1 := hel i hi
      have h2 : ∃ z, elems[i]? = some z := ⟨_, List.getElem?_eq_getElem (by omega)⟩
      obtain ⟨z, hz⟩ := h2
      rw [hz, Option.bind_eq_some_iff] at h1
      obtain ⟨c, hc, hr⟩ := h1
      obtain ⟨x, hx, hw⟩ := h enc w n c z hr
      rw [hs] at hc
      exact ⟨x, hw, c, hc, hx⟩)
    refine ⟨l, ⟨some a, cap, by rw [hll], by omega, rfl, by unfold maxLen at hm; omega, fun _ => ⟨a, rfl, fun j p hj => ?_⟩⟩, by omega, fun x hx => ?_⟩
    · obtain ⟨_, c, hc, hK⟩ := hp j p hj
      obtain ⟨_, hcl, hcell⟩ := World.cells?_some hc
      refine ⟨c, hcl, hK, fun i u hu => ?_⟩
      have hi : i < k.sz := by have := (List.getElem?_eq_some_iff.1 hu).1; omega
      have e := hcell i hi
      rw [hu] at e
      rw [← e]
      refine congrArg w.cell? ?_
      unfold Addr.add
      by_cases h1 : i = 0
      · subst h1; simp
      · by_cases h2 : j * k.sz = 0
        · simp [h1, h2]
        · rw [if_neg (by omega), if_neg h1, if_neg h2]
          simp [Nat.add_assoc]
    · obtain ⟨i, hi⟩ := List.getElem?_of_mem hx
      exact (hp i x hi).1

theorem opens_struct2 {α β : Type} {P : Program} {k0 : Kd α} {k1 : Kd β} {wf0 : α → Prop} {wf1 : β → Prop} {t : TypeId} {f0 f1 : Field} (ht : P.underlying t = some (.struct #[f0, f1]))
    (ho0 : f0.offset = 0) (ho1 : f1.offset = k0.sz) (hs0 : P.cellsOf f0.type = k0.sz) (hs1 : P.cellsOf f1.type = k1.sz) (hs : P.cellsOf t = k0.sz + k1.sz)
    (h0 : Opens P k0 wf0 f0.type) (h1 : Opens P k1 wf1 f1.type) : Opens P (Kd.pair k0 k1) (fun x => wf0 x.1 ∧ wf1 x.2) t := by
  intro H enc w fuel cs y hy
  obtain ⟨xs, n, _, _, hcl, hxl, hf⟩ := DataW.trod_struct ht hy
  have e0 := hf 0 f0 rfl
  have e1 := hf 1 f1 rfl
  rw [ho0, hs0, List.getElem?_eq_getElem (by rw [hxl]; exact Nat.zero_lt_succ _)] at e0
  rw [ho1, hs1, List.getElem?_eq_getElem (by rw [hxl]; exact Nat.lt_succ_self _)] at e1
  obtain ⟨x0, hx0, hw0⟩ := h0 enc w n _ _ e0
  obtain ⟨x1, hx1, hw1⟩ := h1 enc w n _ _ e1
  refine ⟨(x0, x1), ⟨_, _, ?_, hx0, hx1⟩, hw0, hw1⟩
  rw [List.drop_zero, List.take_of_length_le (l := cs.drop k0.sz) (by simp; omega), List.take_append_drop]

theorem opens_struct3 {α β γ : Type} {P : Program} {k0 : Kd α} {k1 : Kd β} {k2 : Kd γ} {wf0 : α → Prop} {wf1 : β → Prop} {wf2 : γ → Prop} {t : TypeId} {f0 f1 f2 : Field} (ht : P.underlying t = some (.struct #[f0, f1, f2]))
    (ho0 : f0.offset = 0) (ho1 : f1.offset = k0.sz) (ho2 : f2.offset = k0.sz + k1.sz) (hs0 : P.cellsOf f0.type = k0.sz) (hs1 : P.cellsOf f1.type = k1.sz) (hs2 : P.cellsOf f2.type = k2.sz) (hs : P.cellsOf t = k0.sz + k1.sz + k2.sz)
    (h0 : Opens P k0 wf0 f0.type) (h1 : Opens P k1 wf1 f1.type) (h2 : Opens P k2 wf2 f2.type) : Opens P (Kd.pair k0 (Kd.pair k1 k2)) (fun x => wf0 x.1 ∧ wf1 x.2.1 ∧ wf2 x.2.2) t := by
  intro H enc w fuel cs y hy
  obtain ⟨xs, n, _, _, hcl, hxl, hf⟩ := DataW.trod_struct ht hy
  have hxl' : xs.length = 3 := hxl
  have e0 := hf 0 f0 rfl
  have e1 := hf 1 f1 rfl
  have e2 := hf 2 f2 rfl
  rw [ho0, hs0, List.getElem?_eq_getElem (by omega)] at e0
  rw [ho1, hs1, List.getElem?_eq_getElem (by omega)] at e1
  rw [ho2, hs2, List.getElem?_eq_getElem (by omega)] at e2
  obtain ⟨x0, hx0, hw0⟩ := h0 enc w n _ _ e0
  obtain ⟨x1, hx1, hw1⟩ := h1 enc w n _ _ e1
  obtain ⟨x2, hx2, hw2⟩ := h2 enc w n _ _ e2
  refine ⟨(x0, x1, x2), ⟨_, _, ?_, hx0, _, _, rfl, hx1, hx2⟩, hw0, hw1, hw2⟩
  rw [List.drop_zero, List.take_of_length_le (l := cs.drop (k0.sz + k1.sz)) (by simp; omega), ← List.drop_drop, List.take_append_drop, List.take_append_drop]

/-- An argument that is a struct. -/
theorem open_agg {α : Type} {P : Program} {k : Kd α} {wf : α → Prop} {t : TypeId} {fs : Array Field} (ht : P.underlying t = some (.struct fs)) (h : Opens P k wf t)
    {H : Type} {enc : TypeId × Value → H} {w : World} {r : Reach} {b0 : Nat} {v : Value} {d : DataW H} {p : List MemPlace} (hv : Value.okWide P w r b0 t v) (hT : DataW.Trod enc P w 0 (fun _ => true) true t v d p) :
    ∃ x cs, v = .agg cs ∧ k.K w x cs.toList ∧ wf x := by
  obtain ⟨cs, rfl, hsz⟩ := okWide_struct ht hv
  obtain ⟨fuel, hf⟩ := hT
  obtain ⟨x, hx, hw⟩ := h enc w fuel _ _ hf
  exact ⟨x, cs, rfl, hx, hw⟩

/-- An argument that is a slice. -/
theorem open_row {α : Type} {P : Program} {k : Kd α} {wf : α → Prop} {t e : TypeId} (ht : P.underlying t = some (.slice e)) (hs : P.cellsOf e = k.sz) (h : Opens P k wf e)
    {H : Type} {enc : TypeId × Value → H} {w : World} {r : Reach} {b0 : Nat} {v : Value} {d : DataW H} {p : List MemPlace} (hv : Value.okWide P w r b0 t v) (hT : DataW.Trod enc P w 0 (fun _ => true) true t v d p) :
    ∃ xs A c, v = .slice A xs.length c ∧ xs.length ≤ c ∧ Kd.C k w A xs.length xs ∧ xs.length ≤ maxLen ∧ ∀ x ∈ xs, wf x := by
  obtain ⟨a, len, cap, rfl⟩ := okWide_slice ht hv
  obtain ⟨fuel, hf⟩ := hT
  obtain ⟨xs, ⟨A, c, hcs, hl, hC⟩, hw⟩ := opens_slice ht hs h enc w fuel _ _ hf
  simp [Value.cells] at hcs
  obtain ⟨rfl, rfl, rfl⟩ := hcs
  exact ⟨xs, _, _, rfl, hl, hC, hw.1, hw.2⟩

end Go.Proofs.Ytkicjflhokckgaa.Opn
