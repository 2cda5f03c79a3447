/- Texts of the abs road (plain values, what code does to them, and the contracts of the functions that the law reaches). No condition. -/
import Derived.Test.YtjknjekemolndaaGreatG10FnExactNeatRegion
import Derived.WalkKit
import Derived.ProofKit
import Derived.OpenShut
import Derived.ShutString
import Derived.ChangeOld
import Derived.ChangeArms
import Derived.ChangeSlices
import Derived.Below
import Derived.SizedLaws
import Derived.Lib.SmallJoins
namespace Go.Proofs.YtjknjekemolndaaGreat.Abs
open Go Go.RowKit Go.ChangeShapes Go.WideShapes Go.ChangeAt
set_option linter.unusedVariables false
def MkC (w : World) (ds : List D) (cs : List Value) : Prop := DenVs (fun _ => none) (fun _ => False) w (ds.map V.d) cs
def OpD {α : Type} (P : Program) (mk : α → List D) (wf : α → Prop) (t : TypeId) : Prop :=
  ∀ {H : Type} (enc : TypeId × Value → H) (w : World) (fuel : Nat) (cs : List Value) (y : DataW H × List MemPlace),
    DataW.trod enc P w 0 (fun _ => true) true fuel t cs = some y → ∃ x, MkC w (mk x) cs ∧ wf x
theorem opD_int {P : Program} {k : IntKind} {t : TypeId} (ht : P.underlying t = some (.int k)) : OpD P (fun n : Int => [.int k n]) (fun n => (Lit.int k n).wf = true) t := by
  intro H enc w fuel cs y h
  obtain ⟨n, rfl, _, hw⟩ := DataW.trod_int ht h
  exact ⟨n, DenVs.cons (by unfold DenV DenD; rfl) DenVs.nil, hw⟩
theorem opD_bool {P : Program} {t : TypeId} (ht : P.underlying t = some .bool) : OpD P (fun b : Bool => [.bool b]) (fun _ => True) t := by
  intro H enc w fuel cs y h
  obtain ⟨n, rfl, _⟩ := DataW.trod_bool ht h
  exact ⟨n, DenVs.cons (by unfold DenV DenD; rfl) DenVs.nil, trivial⟩
theorem opD_string {P : Program} {t : TypeId} (ht : P.underlying t = some .string) : OpD P (fun s : ByteArray => [.str s]) (fun s => s.size ≤ maxLen) t := by
  intro H enc w fuel cs y h
  obtain ⟨n, rfl, _, hs⟩ := DataW.trod_string ht h
  exact ⟨n, DenVs.cons (by unfold DenV DenD; rfl) DenVs.nil, hs⟩
theorem exists_list {α : Type} (n : Nat) (p : Nat → α → Prop) (h : ∀ i, i < n → ∃ x, p i x) : ∃ l : List α, l.length = n ∧ ∀ i x, l[i]? = some x → p i x := by
  induction n with
  | zero => exact ⟨[], rfl, fun i x hx => by simp at hx⟩
  | succ n ih =>
    obtain ⟨l, hl, hp⟩ := ih (fun i hi => h i (by omega))
    obtain ⟨x, hx⟩ := h n (by omega)
    refine ⟨l ++ [x], by simp [hl], fun i y hy => ?_⟩
    by_cases hi : i < l.length
    · rw [List.getElem?_append_left hi] at hy
      exact hp i y hy
    · have hlt := (List.getElem?_eq_some_iff.1 hy).1
      simp only [List.length_append, List.length_singleton] at hlt
      obtain rfl : i = n := by omega
      rw [List.getElem?_append_right (by omega), hl] at hy
      simp at hy
      subst hy
      exact hx
theorem denDs_flat {α : Type} {w : World} {mk : α → List D} {sz b o : Nat} (hsz : ∀ x, (mk x).length = sz) : ∀ (l : List α) (j : Nat), (∀ i x, l[i]? = some x → ∃ c : List Value, c.length = sz ∧ MkC w (mk x) c ∧ ∀ k u, c[k]? = some u → w.cell? ⟨b, o + (j + i) * sz + k, none⟩ = some u) → DenDs (fun _ => False) w (l.flatMap mk) b (o + j * sz)
  | [], j, _ => by simp [DenDs]
  | x :: l, j, h => by
    obtain ⟨c, hc, hd, hu⟩ := h 0 x rfl
    have ih := denDs_flat (w := w) (b := b) (o := o) hsz l (j + 1) (fun i y hy => by
      obtain ⟨c, h1, h2, h3⟩ := h (i + 1) y hy
      exact ⟨c, h1, h2, fun k u hk => by rw [show j + 1 + i = j + (i + 1) by omega]; exact h3 k u hk⟩)
    have app : ∀ (ds : List D) (c : List Value) (p : Nat), MkC w ds c → (∀ k u, c[k]? = some u → w.cell? ⟨b, p + k, none⟩ = some u) → ∀ es, DenDs (fun _ => False) w es b (p + ds.length) → DenDs (fun _ => False) w (ds ++ es) b p := by
      intro ds
      induction ds with
      | nil => intro c p _ _ es hes; simpa using hes
      | cons d ds ih =>
        intro c p hm hc es hes
        unfold MkC at hm
        rw [List.map_cons] at hm
        unfold DenVs at hm
        obtain ⟨u, r, rfl, h1, h2⟩ := hm
        unfold DenV at h1
        rw [List.cons_append]
        unfold DenDs
        refine ⟨⟨u, by simpa using hc 0 u rfl, h1⟩, ih r (p + 1) h2 (fun k u hk => ?_) es ?_⟩
        · rw [show p + 1 + k = p + (k + 1) by omega]; exact hc (k + 1) u (by simpa using hk)
        · rw [show p + 1 + ds.length = p + (d :: ds).length by simp; omega]; exact hes
    rw [List.flatMap_cons]
    refine app (mk x) c _ hd (fun k u hk => by simpa using hu k u hk) _ ?_
    rw [hsz, show o + j * sz + sz = o + (j + 1) * sz by rw [Nat.succ_mul]; omega]
    exact ih
theorem opD_slice {α : Type} {P : Program} {mk : α → List D} {wf : α → Prop} {t e : TypeId} (sz : Nat) (ht : P.underlying t = some (.slice e)) (hs : P.cellsOf e = sz) (hp : 0 < sz) (hm : ∀ x, (mk x).length = sz) (h : OpD P mk wf e) :
    OpD P (fun xs : List α => [.sl xs.length (xs.flatMap mk)]) (fun xs => xs.length ≤ maxLen ∧ ∀ x ∈ xs, wf x) t := by
  intro H enc w fuel cs y hy
  rcases DataW.trod_slice ht hy with ⟨rfl, _⟩ | ⟨a, len, cap, elems, rest, n, _, rfl, _, hb, hl, hmx, hlen, hel, _, _⟩
  · refine ⟨[], DenVs.cons ?_ DenVs.nil, by simp, by simp⟩
    unfold DenV DenD
    exact ⟨none, 0, rfl, Nat.le_refl _, .inl rfl, .inl rfl⟩
  · obtain ⟨l, hll, hp2⟩ := exists_list len (fun i x => wf x ∧ ∃ c, w.cells? 0 (a.add (i * sz)) sz = some c ∧ MkC w (mk x) c) (by
      intro i hi
      have h1 := hel i hi
      obtain ⟨z, hz⟩ : ∃ z, elems[i]? = some z := ⟨_, List.getElem?_eq_getElem (by omega)⟩
      rw [hz, Option.bind_eq_some_iff] at h1
      obtain ⟨c, hc, hr⟩ := h1
      obtain ⟨x, hx, hw⟩ := h enc w n c z hr
      rw [hs] at hc
      exact ⟨x, hw, c, hc, hx⟩)
    refine ⟨l, DenVs.cons ?_ DenVs.nil, by omega, fun x hx => ?_⟩
    · unfold DenV DenD
      by_cases h0 : len = 0
      · obtain rfl := List.eq_nil_of_length_eq_zero (hll.trans h0)
        refine ⟨_, _, by rw [hll], by omega, .inl (by omega), .inl rfl⟩
      · have hsp : a.spot = none := by
          obtain ⟨x, hx⟩ : ∃ x, l[0]? = some x := ⟨_, List.getElem?_eq_getElem (by omega)⟩
          obtain ⟨_, c, hc, _⟩ := hp2 0 x hx
          obtain ⟨_, hcl, hcell⟩ := World.cells?_some hc
          have h1 := hcell 0 hp
          obtain ⟨u, hu⟩ : ∃ u, c[0]? = some u := ⟨_, List.getElem?_eq_getElem (by omega)⟩
          rw [hu] at h1
          have := World.cell?_spot h1
          simpa [Addr.add] using this
        obtain ⟨b, o, sp⟩ := a
        simp only at hsp
        subst hsp
        refine ⟨_, _, by rw [hll], by omega, .inr ⟨_, _, rfl⟩, .inr ⟨b, o, rfl, fun h => h, ?_⟩⟩
        have := denDs_flat (w := w) (b := b) (o := o) hm l 0 (fun i x hx => by
          obtain ⟨_, c, hc, hd⟩ := hp2 i x hx
          obtain ⟨_, hcl, hcell⟩ := World.cells?_some hc
          refine ⟨c, hcl, hd, fun k u hk => ?_⟩
          have hk2 : k < sz := by have := (List.getElem?_eq_some_iff.1 hk).1; omega
          have e := hcell k hk2
          rw [hk] at e
          rw [← e]
          refine congrArg w.cell? ?_
          unfold Addr.add
          by_cases h1 : k = 0
          · subst h1
            by_cases h2 : i * sz = 0
            · simp [h2]
            · simp [h2]
          · by_cases h2 : i * sz = 0
            · simp [h1, h2]
            · simp [h1, h2])
        simpa using this
    · obtain ⟨i, hi⟩ := List.getElem?_of_mem hx
      exact (hp2 i x hi).1
theorem opD_row {α : Type} {P : Program} {f : α → D} {wf : α → Prop} {t e : TypeId} (ht : P.underlying t = some (.slice e)) (hs : P.cellsOf e = 1) (h : OpD P (fun x => [f x]) wf e) :
    OpD P (fun xs : List α => [.sl xs.length (xs.map f)]) (fun xs => xs.length ≤ maxLen ∧ ∀ x ∈ xs, wf x) t := by
  intro H enc w fuel cs y hy
  obtain ⟨x, hx, hw⟩ := opD_slice 1 ht hs Nat.one_pos (fun _ => rfl) h enc w fuel cs y hy
  refine ⟨x, ?_, hw⟩
  have e : x.flatMap (fun x => [f x]) = x.map f := by
    clear hx hw
    induction x with
    | nil => rfl
    | cons a l ih => rw [List.flatMap_cons, ih]; rfl
  have hx2 : MkC w [.sl x.length (x.flatMap fun x => [f x])] cs := hx
  rw [e] at hx2
  exact hx2
theorem mkC_app {w : World} : ∀ {ds es : List D} {cs us : List Value}, MkC w ds cs → MkC w es us → MkC w (ds ++ es) (cs ++ us)
  | [], es, cs, us, h, h2 => by unfold MkC at h; simp only [List.map_nil] at h; unfold DenVs at h; subst h; exact h2
  | d :: ds, es, cs, us, h, h2 => by
    unfold MkC at h
    rw [List.map_cons] at h
    unfold DenVs at h
    obtain ⟨u, r, rfl, h3, h4⟩ := h
    exact DenVs.cons h3 (mkC_app h4 h2)
theorem opD_struct2 {α β : Type} {P : Program} {m0 : α → List D} {m1 : β → List D} {wf0 : α → Prop} {wf1 : β → Prop} {t : TypeId} {f0 f1 : Field} {s0 s1 : Nat} (ht : P.underlying t = some (.struct #[f0, f1]))
    (ho0 : f0.offset = 0) (ho1 : f1.offset = s0) (hs0 : P.cellsOf f0.type = s0) (hs1 : P.cellsOf f1.type = s1) (hs : P.cellsOf t = s0 + s1)
    (h0 : OpD P m0 wf0 f0.type) (h1 : OpD P m1 wf1 f1.type) : OpD P (fun x : α × β => m0 x.1 ++ m1 x.2) (fun x => wf0 x.1 ∧ wf1 x.2) t := by
  intro H enc w fuel cs y hy
  obtain ⟨xs, n, _, _, hcl, hxl, hf⟩ := DataW.trod_struct ht hy
  have e0 := hf 0 f0 rfl
  have e1 := hf 1 f1 rfl
  rw [ho0, hs0, List.getElem?_eq_getElem (by rw [hxl]; exact Nat.zero_lt_succ _)] at e0
  rw [ho1, hs1, List.getElem?_eq_getElem (by rw [hxl]; exact Nat.lt_succ_self _)] at e1
  obtain ⟨x0, hx0, hw0⟩ := h0 enc w n _ _ e0
  obtain ⟨x1, hx1, hw1⟩ := h1 enc w n _ _ e1
  refine ⟨(x0, x1), ?_, hw0, hw1⟩
  have := mkC_app hx0 hx1
  rwa [List.drop_zero, List.take_of_length_le (l := cs.drop s0) (by simp; omega), List.take_append_drop] at this
theorem opD_struct3 {α β γ : Type} {P : Program} {m0 : α → List D} {m1 : β → List D} {m2 : γ → List D} {wf0 : α → Prop} {wf1 : β → Prop} {wf2 : γ → Prop} {t : TypeId} {f0 f1 f2 : Field} {s0 s1 s2 : Nat} (ht : P.underlying t = some (.struct #[f0, f1, f2]))
    (ho0 : f0.offset = 0) (ho1 : f1.offset = s0) (ho2 : f2.offset = s0 + s1) (hs0 : P.cellsOf f0.type = s0) (hs1 : P.cellsOf f1.type = s1) (hs2 : P.cellsOf f2.type = s2) (hs : P.cellsOf t = s0 + s1 + s2)
    (h0 : OpD P m0 wf0 f0.type) (h1 : OpD P m1 wf1 f1.type) (h2 : OpD P m2 wf2 f2.type) : OpD P (fun x : α × β × γ => m0 x.1 ++ (m1 x.2.1 ++ m2 x.2.2)) (fun x => wf0 x.1 ∧ wf1 x.2.1 ∧ wf2 x.2.2) t := by
  intro H enc w fuel cs y hy
  obtain ⟨xs, n, _, _, hcl, hxl, hf⟩ := DataW.trod_struct ht hy
  have hxl' : xs.length = 3 := hxl
  have e0 := hf 0 f0 rfl
  have e1 := hf 1 f1 rfl
  have e2 := hf 2 f2 rfl
  rw [ho0, hs0, List.getElem?_eq_getElem (by omega)] at e0
  rw [ho1, hs1, List.getElem?_eq_getElem (by omega)] at e1
  rw [ho2, hs2, List.getElem?_eq_getElem (by omega)] at e2
  obtain ⟨x0, hx0, hw0⟩ := h0 enc w n _ _ e0
  obtain ⟨x1, hx1, hw1⟩ := h1 enc w n _ _ e1
  obtain ⟨x2, hx2, hw2⟩ := h2 enc w n _ _ e2
  refine ⟨(x0, x1, x2), ?_, hw0, hw1, hw2⟩
  have := mkC_app hx0 (mkC_app hx1 hx2)
  rwa [List.drop_zero, List.take_of_length_le (l := cs.drop (s0 + s1)) (by simp; omega), ← List.drop_drop, List.take_append_drop, List.take_append_drop] at this
theorem openD_agg {α : Type} {P : Program} {mk : α → List D} {wf : α → Prop} {t : TypeId} {fs : Array Field} (ht : P.underlying t = some (.struct fs)) (h : OpD P mk wf t)
    {H : Type} {enc : TypeId × Value → H} {w : World} {r : Reach} {b0 : Nat} {v : Value} {d : DataW H} {p : List MemPlace} (hv : Value.okWide P w r b0 t v) (hT : DataW.Trod enc P w 0 (fun _ => true) true t v d p) :
    ∃ x, DenV (fun _ => none) (fun _ => False) w (.agg ((mk x).map V.d)) v ∧ wf x := by
  obtain ⟨cs, rfl, hsz⟩ := okWide_struct ht hv
  obtain ⟨fuel, hf⟩ := hT
  obtain ⟨x, hx, hw⟩ := h enc w fuel _ _ hf
  exact ⟨x, by unfold DenV; exact ⟨cs, rfl, hx⟩, hw⟩
theorem openD_one {α : Type} {P : Program} {mk : α → D} {wf : α → Prop} {t : TypeId} (h : OpD P (fun x => [mk x]) wf t)
    {H : Type} {enc : TypeId × Value → H} {w : World} {v : Value} {d : DataW H} {p : List MemPlace} (hv : v.cells = #[v]) (hT : DataW.Trod enc P w 0 (fun _ => true) true t v d p) :
    ∃ x, DenV (fun _ => none) (fun _ => False) w (.d (mk x)) v ∧ wf x := by
  obtain ⟨fuel, hf⟩ := hT
  obtain ⟨x, hx, hw⟩ := h enc w fuel _ _ hf
  refine ⟨x, ?_, hw⟩
  unfold MkC at hx
  rw [hv] at hx
  simp only [List.map_cons, List.map_nil] at hx
  unfold DenVs at hx
  obtain ⟨u, r, h1, h2, _⟩ := hx
  obtain ⟨rfl, _⟩ := List.cons.inj h1
  exact h2
end Go.Proofs.YtjknjekemolndaaGreat.Abs
