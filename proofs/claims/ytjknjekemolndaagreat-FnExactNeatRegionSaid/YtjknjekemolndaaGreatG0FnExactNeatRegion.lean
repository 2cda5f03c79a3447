/- Texts of the abs road (plain values, what code does to them, and the contracts of the functions that the law reaches). No condition. -/
import Derived.Below
import Derived.Maps.AppendAt
import Derived.Laws.MakeOwn
import Derived.Deep.MidRow
import Derived.KernelRfl
import Derived.Tactics
namespace Go.Proofs.YtjknjekemolndaaGreat.Abs
open Go Go.RowKit
set_option linter.unusedVariables false
set_option linter.unusedSimpArgs false
abbrev Key := Nat × Nat
inductive D where
  | bool (b : Bool)
  | int (k : IntKind) (n : Int)
  | str (s : ByteArray)
  | sl (n : Nat) (c : List D)
inductive V where
  | unk
  | d (x : D)
  | nil
  | ref (k : Key) (n : Nat)
  | ptr (k : Key) (off : Nat)
  | adr (s : V) (off : Nat)
  | agg (c : List V)
  | tup (c : List V)
  | fn (f : Nat) (caps : List V)
  | sub (k : Key) (sz off n : Nat)
inductive Ent where
  | box (c : List V)
  | row (e : TypeId) (n : Nat) (c : List V)
  | fz (n : Nat) (c : List D)
mutual
def DenD (F : Nat → Prop) (w : World) : D → Value → Prop
  | .bool b, v => v = .bool b
  | .int k n, v => v = .int k n
  | .str s, v => v = .string s
  | .sl n c, v => ∃ A cap, v = .slice A n cap ∧ n ≤ cap ∧ (n = 0 ∨ ∃ b o, A = some ⟨b, o, none⟩) ∧ (c = [] ∨ ∃ b o, A = some ⟨b, o, none⟩ ∧ ¬ F b ∧ DenDs F w c b o)
def DenDs (F : Nat → Prop) (w : World) : List D → Nat → Nat → Prop
  | [], _, _ => True
  | x :: c, b, o => (∃ u, w.cell? ⟨b, o, none⟩ = some u ∧ DenD F w x u) ∧ DenDs F w c b (o + 1)
end
mutual
def DenV (M : Key → Option Value) (F : Nat → Prop) (w : World) : V → Value → Prop
  | .unk, _ => True
  | .d x, v => DenD F w x v
  | .nil, v => ∃ A, v = .slice A 0 0
  | .ref k n, v => M k = some v ∧ ∃ A cap, v = .slice A n cap ∧ (n = 0 ∨ ∃ b o, A = some ⟨b, o, none⟩) ∧ n ≤ cap
  | .ptr k off, v => ∃ b, M k = some (.pointer (some ⟨b, 0, none⟩)) ∧ v = .pointer (some ⟨b, off, none⟩)
  | .adr s off, v => ∃ b o n cap, v = .pointer (some ⟨b, o + off, none⟩) ∧ DenV M F w s (.slice (some ⟨b, o, none⟩) n cap)
  | .agg c, v => ∃ cs : Array Value, v = .agg cs ∧ DenVs M F w c cs.toList
  | .tup c, v => ∃ cs : Array Value, v = .tuple cs ∧ DenVs M F w c cs.toList
  | .fn f caps, v => ∃ cs : Array Value, v = .func (.func f) #[] cs ∧ DenVs M F w caps cs.toList
  | .sub k sz off n, v => ∃ A0 n0 cap0 A cap, M k = some (.slice A0 n0 cap0) ∧ off + n ≤ n0 ∧ v = .slice A n cap ∧ n ≤ cap ∧ (n = 0 ∨ ∃ b o, A0 = some ⟨b, o, none⟩ ∧ A = some ⟨b, o + off * sz, none⟩)
def DenVs (M : Key → Option Value) (F : Nat → Prop) (w : World) : List V → List Value → Prop
  | [], us => us = []
  | x :: c, us => ∃ u r, us = u :: r ∧ DenV M F w x u ∧ DenVs M F w c r
end
structure Holds (F F' : Nat → Prop) (w w' : World) : Prop where
  forb : ∀ b, F' b → F b ∨ w.heap.size ≤ b
  same : ∀ b, ¬ F b → b < w.heap.size → w'.heap[b]? = w.heap[b]?
theorem Holds.cell {F F' : Nat → Prop} {w w' : World} (h : Holds F F' w w') {b o : Nat} {u : Value} (hb : ¬ F b) (hc : w.cell? ⟨b, o, none⟩ = some u) : w'.cell? ⟨b, o, none⟩ = some u := by
  have hl := World.block_lt_of_cell? w _ hc
  rw [← hc]
  exact World.cell?_of_block (h.same b hb hl)
mutual
theorem DenD.move {F F' : Nat → Prop} {w w' : World} (h : Holds F F' w w') : ∀ {x : D} {v : Value}, DenD F w x v → DenD F' w' x v
  | .bool b, v, hx => by unfold DenD at hx ⊢; exact hx
  | .int k n, v, hx => by unfold DenD at hx ⊢; exact hx
  | .str s, v, hx => by unfold DenD at hx ⊢; exact hx
  | .sl n c, v, hx => by
    unfold DenD at hx ⊢
    obtain ⟨A, cap, rfl, hn, hz, hc⟩ := hx
    refine ⟨A, cap, rfl, hn, hz, ?_⟩
    rcases hc with hc | ⟨b, o, hA, hb, hd⟩
    · exact .inl hc
    · cases c with
      | nil => exact .inl rfl
      | cons x c =>
        refine .inr ⟨b, o, hA, fun hf => ?_, DenDs.move h hb hd⟩
        unfold DenDs at hd
        obtain ⟨⟨u, hu, _⟩, _⟩ := hd
        have hl := World.block_lt_of_cell? w _ hu
        rcases h.forb b hf with h1 | h1
        · exact hb h1
        · simp only at hl; omega
theorem DenDs.move {F F' : Nat → Prop} {w w' : World} (h : Holds F F' w w') : ∀ {c : List D} {b o : Nat}, ¬ F b → DenDs F w c b o → DenDs F' w' c b o
  | [], b, o, hb, hx => by unfold DenDs; trivial
  | x :: c, b, o, hb, hx => by
    unfold DenDs at hx ⊢
    obtain ⟨⟨u, hu, hd⟩, hr⟩ := hx
    exact ⟨⟨u, h.cell hb hu, DenD.move h hd⟩, DenDs.move h hb hr⟩
end
mutual
theorem DenV.move {M M' : Key → Option Value} {F F' : Nat → Prop} {w w' : World} (hM : ∀ k u, M k = some u → M' k = some u) (h : Holds F F' w w') : ∀ {x : V} {v : Value}, DenV M F w x v → DenV M' F' w' x v
  | .unk, v, hx => by unfold DenV; trivial
  | .d x, v, hx => by unfold DenV at hx ⊢; exact hx.move h
  | .nil, v, hx => by unfold DenV at hx ⊢; exact hx
  | .ref k n, v, hx => by unfold DenV at hx ⊢; exact ⟨hM _ _ hx.1, hx.2⟩
  | .ptr k off, v, hx => by
    unfold DenV at hx ⊢
    obtain ⟨b, hb, hv⟩ := hx
    exact ⟨b, hM _ _ hb, hv⟩
  | .adr s off, v, hx => by
    unfold DenV at hx ⊢
    obtain ⟨b, o, n, cap, hv, hs⟩ := hx
    exact ⟨b, o, n, cap, hv, DenV.move hM h hs⟩
  | .agg c, v, hx => by
    unfold DenV at hx ⊢
    obtain ⟨cs, hv, hs⟩ := hx
    exact ⟨cs, hv, DenVs.move hM h hs⟩
  | .tup c, v, hx => by
    unfold DenV at hx ⊢
    obtain ⟨cs, hv, hs⟩ := hx
    exact ⟨cs, hv, DenVs.move hM h hs⟩
  | .fn f c, v, hx => by
    unfold DenV at hx ⊢
    obtain ⟨cs, hv, hs⟩ := hx
    exact ⟨cs, hv, DenVs.move hM h hs⟩
  | .sub k sz off n, v, hx => by
    unfold DenV at hx ⊢
    obtain ⟨A0, n0, cap0, A, cap, h1, h2⟩ := hx
    exact ⟨A0, n0, cap0, A, cap, hM _ _ h1, h2⟩
theorem DenVs.move {M M' : Key → Option Value} {F F' : Nat → Prop} {w w' : World} (hM : ∀ k u, M k = some u → M' k = some u) (h : Holds F F' w w') : ∀ {c : List V} {us : List Value}, DenVs M F w c us → DenVs M' F' w' c us
  | [], us, hx => by unfold DenVs at hx ⊢; exact hx
  | x :: c, us, hx => by
    unfold DenVs at hx ⊢
    obtain ⟨u, r, hu, hd, hr⟩ := hx
    exact ⟨u, r, hu, DenV.move hM h hd, DenVs.move hM h hr⟩
end
section
variable {M : Key → Option Value} {F : Nat → Prop} {w : World}
theorem DenVs.nil : DenVs M F w [] [] := by unfold DenVs; rfl
theorem DenVs.cons {x : V} {c : List V} {u : Value} {r : List Value} (h : DenV M F w x u) (hr : DenVs M F w c r) : DenVs M F w (x :: c) (u :: r) := by
  unfold DenVs; exact ⟨u, r, rfl, h, hr⟩
theorem DenVs.length : ∀ {c : List V} {us : List Value}, DenVs M F w c us → us.length = c.length
  | [], us, h => by unfold DenVs at h; simp [h]
  | x :: c, us, h => by
    unfold DenVs at h
    obtain ⟨u, r, rfl, _, hr⟩ := h
    simp [DenVs.length hr]
theorem DenVs.get : ∀ {c : List V} {us : List Value} {j : Nat} {x : V}, DenVs M F w c us → c[j]? = some x → ∃ u, us[j]? = some u ∧ DenV M F w x u
  | [], us, j, x, h, hx => by simp at hx
  | y :: c, us, 0, x, h, hx => by
    unfold DenVs at h
    obtain ⟨u, r, rfl, hu, _⟩ := h
    simp at hx; subst hx
    exact ⟨u, rfl, hu⟩
  | y :: c, us, j + 1, x, h, hx => by
    unfold DenVs at h
    obtain ⟨u, r, rfl, _, hr⟩ := h
    simp at hx
    obtain ⟨v, hv, hd⟩ := DenVs.get hr hx
    exact ⟨v, by simpa using hv, hd⟩
theorem DenVs.append : ∀ {c : List V} {us : List Value} {c' : List V} {us' : List Value}, DenVs M F w c us → DenVs M F w c' us' → DenVs M F w (c ++ c') (us ++ us')
  | [], us, c', us', h, h' => by unfold DenVs at h; subst h; exact h'
  | x :: c, us, c', us', h, h' => by
    unfold DenVs at h
    obtain ⟨u, r, rfl, hu, hr⟩ := h
    exact DenVs.cons hu (DenVs.append hr h')
theorem DenVs.drop : ∀ {c : List V} {us : List Value} (i : Nat), DenVs M F w c us → DenVs M F w (c.drop i) (us.drop i)
  | c, us, 0, h => by simpa using h
  | [], us, i + 1, h => by unfold DenVs at h; subst h; simp; exact DenVs.nil
  | x :: c, us, i + 1, h => by
    unfold DenVs at h
    obtain ⟨u, r, rfl, hu, hr⟩ := h
    simpa using DenVs.drop i hr
theorem DenVs.take : ∀ {c : List V} {us : List Value} (i : Nat), DenVs M F w c us → DenVs M F w (c.take i) (us.take i)
  | c, us, 0, h => by simp; exact DenVs.nil
  | [], us, i + 1, h => by unfold DenVs at h; subst h; simp; exact DenVs.nil
  | x :: c, us, i + 1, h => by
    unfold DenVs at h
    obtain ⟨u, r, rfl, hu, hr⟩ := h
    simpa using DenVs.cons hu (DenVs.take i hr)
theorem DenVs.of_get : ∀ {c : List V} {us : List Value}, us.length = c.length → (∀ (j : Nat) (x : V) (u : Value), c[j]? = some x → us[j]? = some u → DenV M F w x u) → DenVs M F w c us
  | [], us, hl, h => by unfold DenVs; exact List.eq_nil_of_length_eq_zero (by simpa using hl)
  | x :: c, [], hl, h => by simp at hl
  | x :: c, u :: r, hl, h => DenVs.cons (h 0 x u rfl rfl) (DenVs.of_get (by simpa using hl) fun j y v hy hv => h (j + 1) y v (by simpa using hy) (by simpa using hv))
theorem DenVs.get_value {c : List V} {us : List Value} {j : Nat} {u : Value} (h : DenVs M F w c us) (hu : us[j]? = some u) : ∃ x, c[j]? = some x ∧ DenV M F w x u := by
  have hj : j < c.length := by rw [← h.length]; exact (List.getElem?_eq_some_iff.1 hu).1
  obtain ⟨v, hv, hd⟩ := h.get (List.getElem?_eq_getElem hj)
  rw [hu] at hv
  obtain rfl := Option.some.inj hv
  exact ⟨_, List.getElem?_eq_getElem hj, hd⟩
end
theorem DenDs.get {F : Nat → Prop} {w : World} : ∀ {c : List D} {b o j : Nat} {x : D}, DenDs F w c b o → c[j]? = some x → ∃ u, w.cell? ⟨b, o + j, none⟩ = some u ∧ DenD F w x u
  | [], b, o, j, x, h, hx => by simp at hx
  | y :: c, b, o, 0, x, h, hx => by
    unfold DenDs at h
    simp at hx; subst hx
    exact h.1
  | y :: c, b, o, j + 1, x, h, hx => by
    unfold DenDs at h
    simp at hx
    obtain ⟨v, hv, hd⟩ := DenDs.get h.2 hx
    exact ⟨v, by rw [← hv]; congr 2; omega, hd⟩
theorem DenDs.drop {F : Nat → Prop} {w : World} : ∀ {c : List D} {b o : Nat} (i : Nat), DenDs F w c b o → DenDs F w (c.drop i) b (o + i)
  | c, b, o, 0, h => by simpa using h
  | [], b, o, i + 1, h => by simp; unfold DenDs; trivial
  | x :: c, b, o, i + 1, h => by
    unfold DenDs at h
    have := DenDs.drop i h.2
    rw [show o + 1 + i = o + (i + 1) by omega] at this
    simpa using this
theorem DenDs.take {F : Nat → Prop} {w : World} : ∀ {c : List D} {b o : Nat} (i : Nat), DenDs F w c b o → DenDs F w (c.take i) b o
  | c, b, o, 0, h => by simp; unfold DenDs; trivial
  | [], b, o, i + 1, h => by simp; unfold DenDs; trivial
  | x :: c, b, o, i + 1, h => by
    unfold DenDs at h
    simp only [List.take_succ_cons]
    unfold DenDs
    exact ⟨h.1, DenDs.take i h.2⟩
theorem DenDs.values {M : Key → Option Value} {F : Nat → Prop} {w : World} : ∀ {c : List D} {b o : Nat}, DenDs F w c b o → ∃ us : List Value, w.rangeAt b o us ∧ DenVs M F w (c.map V.d) us
  | [], b, o, h => ⟨[], fun j v hv => by simp at hv, DenVs.nil⟩
  | x :: c, b, o, h => by
    unfold DenDs at h
    obtain ⟨⟨u, hu, hd⟩, hr⟩ := h
    obtain ⟨us, h1, h2⟩ := DenDs.values (M := M) hr
    refine ⟨u :: us, fun j v hv => ?_, DenVs.cons (by unfold DenV; exact hd) h2⟩
    cases j with
    | zero => simp at hv; subst hv; exact hu
    | succ j => rw [show o + (j + 1) = o + 1 + j by omega]; exact h1 j v (by simpa using hv)
theorem DenDs.of_values {M : Key → Option Value} {F : Nat → Prop} {w : World} : ∀ {c : List D} {us : List Value} {b o : Nat}, w.rangeAt b o us → DenVs M F w (c.map V.d) us → DenDs F w c b o
  | [], us, b, o, h, hd => by unfold DenDs; trivial
  | x :: c, us, b, o, h, hd => by
    simp only [List.map_cons] at hd
    unfold DenVs at hd
    obtain ⟨u, r, rfl, hu, hr⟩ := hd
    unfold DenV at hu
    unfold DenDs
    exact ⟨⟨u, h 0 u rfl, hu⟩, DenDs.of_values (fun j v hv => by rw [show o + 1 + j = o + (j + 1) by omega]; exact h (j + 1) v (by simpa using hv)) hr⟩
theorem DenD.oneCell {F : Nat → Prop} {w : World} {x : D} {v : Value} (h : DenD F w x v) : v.oneCell' = true := by
  cases x <;> unfold DenD at h
  · subst h; rfl
  · subst h; rfl
  · subst h; rfl
  · obtain ⟨A, cap, rfl, _⟩ := h; rfl
def V.one : V → Bool
  | .d _ | .nil | .ref .. | .ptr .. | .adr .. | .fn .. | .sub .. => true
  | _ => false
theorem DenV.oneCell {M : Key → Option Value} {F : Nat → Prop} {w : World} {x : V} {v : Value} (h : DenV M F w x v) (hx : x.one = true) : v.oneCell' = true := by
  cases x with
  | unk => simp [V.one] at hx
  | agg c => simp [V.one] at hx
  | tup c => simp [V.one] at hx
  | d y => unfold DenV at h; exact h.oneCell
  | nil => unfold DenV at h; obtain ⟨A, rfl⟩ := h; rfl
  | ref k n => unfold DenV at h; obtain ⟨_, A, cap, rfl, _⟩ := h; rfl
  | ptr k o => unfold DenV at h; obtain ⟨b, _, rfl⟩ := h; rfl
  | adr s o => unfold DenV at h; obtain ⟨b, o, n, cap, rfl, _⟩ := h; rfl
  | fn f c => unfold DenV at h; obtain ⟨cs, rfl, _⟩ := h; rfl
  | sub k sz off n => unfold DenV at h; obtain ⟨_, _, _, A, cap, _, _, rfl, _⟩ := h; rfl
theorem DenVs.oneCell {M : Key → Option Value} {F : Nat → Prop} {w : World} {c : List V} {us : List Value} (h : DenVs M F w c us) (hc : c.all V.one = true) : ∀ u ∈ us, u.oneCell' = true := by
  intro u hu
  obtain ⟨j, hj⟩ := List.getElem?_of_mem hu
  obtain ⟨x, hx, hd⟩ := h.get_value hj
  exact hd.oneCell (List.all_eq_true.1 hc x (List.mem_of_getElem? hx))
end Go.Proofs.YtjknjekemolndaaGreat.Abs
namespace Go.Proofs.YtjknjekemolndaaGreat.Abs
open Go Go.RowKit
set_option linter.unusedVariables false
set_option linter.unusedSimpArgs false
abbrev Store := Key → Option Ent
def blkOf : Value → Option Nat
  | .slice (some a) _ cap => if cap = 0 then none else some a.block
  | .pointer (some a) => some a.block
  | _ => none
def EntOk (P : Program) (M : Key → Option Value) (F : Nat → Prop) (w : World) : Ent → Value → Prop
  | .box c, u => ∃ b cs t, u = .pointer (some ⟨b, 0, none⟩) ∧ w.heap[b]? = some (.cells cs t (0, 0)) ∧ DenVs M F w c cs.toList
  | .row e n c, u => (∃ xs i, P.info? e = some i ∧ w.ownsRow 0 e i.size u n xs ∧ DenVs M F w c xs) ∨ (∃ A, u = .slice A 0 0 ∧ n = 0 ∧ c = [])
  | .fz n c, u => DenD F w (.sl n c) u
def Ent.live : Ent → Bool
  | .fz .. => false
  | _ => true
structure Real (P : Program) (M : Key → Option Value) (F : Nat → Prop) (w : World) (H : Store) : Prop where
  ent : ∀ k e, H k = some e → ∃ u, M k = some u ∧ EntOk P M F w e u ∧ (e.live = true → ∀ b, blkOf u = some b → F b)
  inj : ∀ k k' e e' u u' b, H k = some e → H k' = some e' → e.live = true → e'.live = true → M k = some u → M k' = some u' → blkOf u = some b → blkOf u' = some b → k = k'
structure Chg (B : Nat → Prop) (w w' : World) : Prop where
  os : w'.os = w.os
  tape : w'.tape = w.tape
  output : w'.output = w.output
  size : w.heap.size ≤ w'.heap.size
  block : ∀ b, ¬ B b → b < w.heap.size → w'.heap[b]? = w.heap[b]?
  drawn : w.drawn ≤ w'.drawn
theorem Chg.refl (B : Nat → Prop) (w : World) : Chg B w w := ⟨rfl, rfl, rfl, Nat.le_refl _, fun _ _ _ => rfl, Nat.le_refl _⟩
theorem Chg.mono {B B' : Nat → Prop} {a b : World} (h : Chg B a b) (hB : ∀ i, i < a.heap.size → B i → B' i) : Chg B' a b :=
  ⟨h.os, h.tape, h.output, h.size, fun i hi hl => h.block i (fun hb => hi (hB i hl hb)) hl, h.drawn⟩
theorem Chg.then {B C : Nat → Prop} {a b c : World} (h : Chg B a b) (k : Chg C b c) (hC : ∀ i, C i → B i ∨ a.heap.size ≤ i) : Chg B a c :=
  ⟨k.os.trans h.os, k.tape.trans h.tape, k.output.trans h.output, Nat.le_trans h.size k.size, fun i hi hl =>
    (k.block i (fun hc => (hC i hc).elim hi (by omega)) (Nat.lt_of_lt_of_le hl h.size)).trans (h.block i hi hl), Nat.le_trans h.drawn k.drawn⟩
theorem Chg.below {w w' : World} (h : Chg (fun _ => False) w w') : Below w.heap.size w w' := ⟨h.os, h.tape, h.output, h.size, fun k hk => h.block k (fun h => h) hk⟩
theorem Chg.drew (B : Nat → Prop) (w : World) : Chg B w w.drew := ⟨rfl, rfl, rfl, Nat.le_refl _, fun _ _ _ => rfl, Nat.le_succ _⟩
theorem Chg.alloc (B : Nat → Prop) (w : World) (o : Obj) : Chg B w (w.alloc o) := ⟨rfl, rfl, rfl, by simp, fun b _ hl => heap_alloc_old w o b hl, Nat.le_refl _⟩
structure Base extends World where
  B0 : Key → Option Value
  res : ∀ k u, B0 k = some u → k.1 = 0 ∧ 1 ≤ k.2
def Base.of (w : World) : Base := { w with B0 := fun _ => none, res := fun _ _ h => absurd h (by simp) }
structure At (P : Program) (N : Nat) (w0 : Base) (F0 E0 : Nat → Prop) (fr : Nat → Prop) (T : Nat → V) (H : Store) (a : Act) (w : World) (M : Key → Option Value) (F : Nat → Prop) : Prop where
  keep : ∀ b, F0 b → ¬ E0 b → F b
  real : Real P M F w H
  tmps : ∀ j, DenV M F w (T j) (a.tmps.getD j undef)
  free : ∀ k : Key, fr k.1 → M k = none
  reach : ∀ k e u b, H k = some e → e.live = true → M k = some u → blkOf u = some b → E0 b ∨ w0.heap.size ≤ b
  defers : a.defers = []
  size : a.tmps.size = N
  chg : Chg E0 w0.toWorld w
  lt0 : ∀ b, F0 b → b < w0.heap.size
  base : ∀ k u, w0.B0 k = some u → M k = some u
def Inv (P : Program) (N : Nat) (w0 : Base) (F0 E0 : Nat → Prop) (fr : Nat → Prop) (T : Nat → V) (H : Store) (a : Act) (w : World) : Prop := ∃ M F, At P N w0 F0 E0 fr T H a w M F
structure St where
  T : Nat → V
  H : Store
  nx : Nat
def St.Fits (P : Program) (N : Nat) (w0 : Base) (F0 E0 : Nat → Prop) (S : St) (a : Act) (w : World) : Prop := Inv P N w0 F0 E0 (fun j => S.nx ≤ j) S.T S.H a w
def W (P : Program) (N : Nat) (c : Code) (Q : Exit → St → Prop) (S : St) : Prop :=
  ∀ w0 F0 E0 a w, S.Fits P N w0 F0 E0 a w → c.wp P (fun e a w => ∃ S', Q e S' ∧ S'.Fits P N w0 F0 E0 a w) a w
def Le (P : Program) (N : Nat) (S S' : St) : Prop := ∀ w0 F0 E0 a w, S.Fits P N w0 F0 E0 a w → S'.Fits P N w0 F0 E0 a w
theorem Le.refl (P : Program) (N : Nat) (S : St) : Le P N S S := fun _ _ _ _ _ h => h
theorem Le.trans {P : Program} {N : Nat} {S S' S'' : St} (h : Le P N S S') (h' : Le P N S' S'') : Le P N S S'' := fun _ _ _ _ _ k => h' _ _ _ _ _ (h _ _ _ _ _ k)
section
variable {P : Program} {N : Nat} {Q : Exit → St → Prop} {S : St}
theorem W.mono {c : Code} {Q' : Exit → St → Prop} (h : W P N c Q S) (hq : ∀ e S, Q e S → Q' e S) : W P N c Q' S := fun w0 F0 E0 a w k =>
  wp_mono (h w0 F0 E0 a w k) fun e a w ⟨S', h1, h2⟩ => ⟨S', hq _ _ h1, h2⟩
theorem W.le {c : Code} {S' : St} (hl : Le P N S S') (h : W P N c Q S') : W P N c Q S := fun w0 F0 E0 a w k => h w0 F0 E0 a w (hl _ _ _ _ _ k)
theorem W.skip (h : Q .normal S) : W P N .skip Q S := fun w0 F0 E0 a w k => wp_skip ⟨S, h, k⟩
theorem W.exit {id : Nat} (h : Q (.exit id) S) : W P N (.exit id) Q S := fun w0 F0 E0 a w k => wp_exit ⟨S, h, k⟩
theorem W.ret (h : Q .ret S) : W P N .ret Q S := fun w0 F0 E0 a w k => wp_ret ⟨S, h, k⟩
def seqQ (next : St → Prop) (Q : Exit → St → Prop) : Exit → St → Prop
  | .normal, S => next S
  | e, S => Q e S
def blockQ (id : Nat) (Q : Exit → St → Prop) : Exit → St → Prop
  | .exit id', S => if id' = id then Q .normal S else Q (.exit id') S
  | e, S => Q e S
theorem W.seq {x y : Code} (h : W P N x (seqQ (fun S' => W P N y Q S') Q) S) : W P N (.seq x y) Q S := fun w0 F0 E0 a w k => by
  refine wp_seq (wp_mono (h w0 F0 E0 a w k) ?_)
  rintro e a' w' ⟨S', h1, h2⟩
  cases e with
  | normal => exact h1 w0 F0 E0 a' w' h2
  | exit id => exact ⟨S', h1, h2⟩
  | goto l => exact ⟨S', h1, h2⟩
  | ret => exact ⟨S', h1, h2⟩
  | panic c => exact ⟨S', h1, h2⟩
  | outgrown => exact ⟨S', h1, h2⟩
theorem W.block {id : Nat} {c : Code} (h : W P N c (blockQ id Q) S) : W P N (.block id c) Q S := fun w0 F0 E0 a w k => by
  refine wp_block (wp_mono (h w0 F0 E0 a w k) ?_)
  rintro e a' w' ⟨S', h1, h2⟩
  cases e with
  | exit id' =>
    simp only [blockQ] at h1
    simp only [Exit.inBlock]
    split
    · rename_i hid; rw [if_pos hid] at h1; exact ⟨S', h1, h2⟩
    · rename_i hid; rw [if_neg hid] at h1; exact ⟨S', h1, h2⟩
  | normal => exact ⟨S', h1, h2⟩
  | goto l => exact ⟨S', h1, h2⟩
  | ret => exact ⟨S', h1, h2⟩
  | panic c => exact ⟨S', h1, h2⟩
  | outgrown => exact ⟨S', h1, h2⟩
def absV : Value → V
  | .bool b => .d (.bool b)
  | .int k n => .d (.int k n)
  | .string s => .d (.str s)
  | .slice none 0 0 => .nil
  | .func (.func f) first captured => if first.size = 0 ∧ captured.size = 0 then .fn f [] else .unk
  | _ => .unk
def evV (T : Nat → V) : Operand → V
  | .tmp t => T t
  | .const v => absV v
  | .func f => .fn f []
  | .global _ => .unk
theorem absV_den {M : Key → Option Value} {F : Nat → Prop} {w : World} (v : Value) : DenV M F w (absV v) v := by
  unfold absV
  split
  · unfold DenV DenD; rfl
  · unfold DenV DenD; rfl
  · unfold DenV DenD; rfl
  · unfold DenV; exact ⟨none, rfl⟩
  · rename_i f first captured
    split
    · rename_i h
      unfold DenV
      have h1 : first = #[] := Array.eq_empty_of_size_eq_zero h.1
      have h2 : captured = #[] := Array.eq_empty_of_size_eq_zero h.2
      subst h1; subst h2
      exact ⟨#[], rfl, DenVs.nil⟩
    · unfold DenV; trivial
  · unfold DenV; trivial
theorem evV_den {M : Key → Option Value} {F : Nat → Prop} {w : World} {T : Nat → V} {a : Act} (h : ∀ j, DenV M F w (T j) (a.tmps.getD j undef)) (x : Operand) : DenV M F w (evV T x) (a.eval x) := by
  cases x with
  | tmp t => exact h t
  | const v => exact absV_den v
  | func f => unfold evV; unfold DenV; exact ⟨#[], rfl, DenVs.nil⟩
  | global g => unfold evV; unfold DenV; trivial
theorem DenV.bool {M : Key → Option Value} {F : Nat → Prop} {w : World} {b : Bool} {v : Value} (h : DenV M F w (.d (.bool b)) v) : v = .bool b := by
  unfold DenV DenD at h; exact h
theorem DenV.int {M : Key → Option Value} {F : Nat → Prop} {w : World} {k : IntKind} {n : Int} {v : Value} (h : DenV M F w (.d (.int k n)) v) : v = .int k n := by
  unfold DenV DenD at h; exact h
theorem DenV.str {M : Key → Option Value} {F : Nat → Prop} {w : World} {s : ByteArray} {v : Value} (h : DenV M F w (.d (.str s)) v) : v = .string s := by
  unfold DenV DenD at h; exact h
def ifV (v : V) (p q : Prop) : Prop := match v with
  | .d (.bool b) => (b = true → p) ∧ (b = false → q)
  | _ => False
theorem W.cond {c : Operand} {x y : Code} (h : ifV (evV S.T c) (W P N x Q S) (W P N y Q S)) : W P N (.cond c x y) Q S := fun w0 F0 E0 a w k => by
  unfold ifV at h
  split at h
  · rename_i b hb
    obtain ⟨M, F, hat⟩ := k
    have hT := hat.tmps
    have hc : a.eval c = .bool b := by
      have := evV_den hT c
      rw [hb] at this
      exact this.bool
    cases b with
    | true => exact wp_cond hc (h.1 rfl w0 F0 E0 a w ⟨M, F, hat⟩)
    | false => exact wp_cond hc (h.2 rfl w0 F0 E0 a w ⟨M, F, hat⟩)
  · exact h.elim
theorem least {p : Nat → Prop} (h : ∃ n, p n) : ∃ n, p n ∧ ∀ m, p m → n ≤ m := by
  obtain ⟨n, hn⟩ := h
  induction n using Nat.strongRecOn with
  | _ n ih =>
    by_cases hc : ∃ m, m < n ∧ p m
    · obtain ⟨m, hm, hp⟩ := hc
      exact ih m hm hp
    · exact ⟨n, hn, fun m hm => Nat.le_of_not_lt fun hl => hc ⟨m, hl, hm⟩⟩
theorem W.loop {α : Type} (st : α → St) (ok : α → Prop) (m : α → Nat) (x0 : α) {c : Code} (h0 : Le P N S (st x0)) (hx : ok x0)
    (round : ∀ x, ok x → W P N c (seqQ (fun S' => ∃ y, ok y ∧ m y < m x ∧ Le P N S' (st y)) Q) (st x)) : W P N (.loop c) Q S := fun w0 F0 E0 a w k => by
  classical
  let I : Act → World → Prop := fun a w => ∃ x, ok x ∧ (st x).Fits P N w0 F0 E0 a w
  let p : Act → World → Nat → Prop := fun a w n => ∃ x, ok x ∧ m x = n ∧ (st x).Fits P N w0 F0 E0 a w
  let μ : Act → World → Nat := fun a w => if h : ∃ n, p a w n then Classical.choose (least h) else 0
  refine wp_loop I μ ⟨x0, hx, h0 _ _ _ _ _ k⟩ fun a w ⟨x1, hx1, hf1⟩ => ?_
  have hex : ∃ n, p a w n := ⟨_, x1, hx1, rfl, hf1⟩
  obtain ⟨x, hok, hm, hf⟩ := (Classical.choose_spec (least hex)).1
  have hmu : μ a w = m x := by show (if h : ∃ n, p a w n then Classical.choose (least h) else 0) = _; rw [dif_pos hex, hm]
  refine wp_mono (round x hok w0 F0 E0 a w hf) ?_
  rintro e a' w' ⟨S', h1, h2⟩
  cases e with
  | normal =>
    obtain ⟨y, hy, hlt, hle⟩ := h1
    have h3 := hle _ _ _ _ _ h2
    have hex' : ∃ n, p a' w' n := ⟨_, y, hy, rfl, h3⟩
    refine ⟨⟨y, hy, h3⟩, ?_⟩
    have : μ a' w' ≤ m y := by
      show (if h : ∃ n, p a' w' n then Classical.choose (least h) else 0) ≤ _
      rw [dif_pos hex']
      exact (Classical.choose_spec (least hex')).2 _ ⟨y, hy, rfl, h3⟩
    rw [hmu]
    omega
  | exit id => exact ⟨S', h1, h2⟩
  | goto l => exact ⟨S', h1, h2⟩
  | ret => exact ⟨S', h1, h2⟩
  | panic c => exact ⟨S', h1, h2⟩
  | outgrown => exact ⟨S', h1, h2⟩
end
end Go.Proofs.YtjknjekemolndaaGreat.Abs
namespace Go.Proofs.YtjknjekemolndaaGreat.Abs
open Go Go.RowKit
set_option linter.unusedVariables false
set_option linter.unusedSimpArgs false
inductive TK where
  | bool | int (k : IntKind) | str | slice (e : TypeId) | struct (fs : List (Nat × TypeId)) | other
structure TI where
  k : TK
  size : Nat
  bytes : Nat
  zc : List V
def tkOf : TypeDesc → TK
  | .bool => .bool
  | .int k => .int k
  | .string => .str
  | .slice e => .slice e
  | .struct fs => .struct (fs.toList.map fun f => (f.offset, f.type))
  | .array .. => .other
  | _ => .other
def digest (P : Program) (t : TypeId) : Option TI := match P.underlying t, P.info? t with
  | some (.array _ _), _ => none
  | some d, some i => match i.zero with
    | some z => some ⟨tkOf d, i.size, i.bytes, z.cells.toList.map absV⟩
    | none => none
  | _, _ => none
theorem digest_spec {P : Program} {t : TypeId} {I : TI} (h : digest P t = some I) : ∃ d i z, P.underlying t = some d ∧ P.info? t = some i ∧ i.zero = some z ∧ I = ⟨tkOf d, i.size, i.bytes, z.cells.toList.map absV⟩ ∧ (∀ n e, d ≠ .array n e) := by
  unfold digest at h
  cases hu : P.underlying t with
  | none => rw [hu] at h; simp at h
  | some d =>
    cases hi : P.info? t with
    | none => rw [hu, hi] at h; cases d <;> simp at h
    | some i =>
      cases hz : i.zero with
      | none => rw [hu, hi] at h; cases d <;> simp [hz] at h
      | some z =>
        rw [hu, hi] at h
        refine ⟨d, i, z, rfl, rfl, hz, ?_, ?_⟩
        · cases d <;> simp [hz] at h <;> exact h.symm
        · rintro n e rfl; simp at h
theorem digest_struct {P : Program} {t : TypeId} {fs : List (Nat × TypeId)} {s b : Nat} {zc : List V} (h : digest P t = some ⟨.struct fs, s, b, zc⟩) : ∃ fa : Array Field, P.underlying t = some (.struct fa) ∧ fs = fa.toList.map (fun f => (f.offset, f.type)) := by
  obtain ⟨d, i, z, hu, hi, hz, he, _⟩ := digest_spec h
  injection he with h1 h2 h3 h4
  cases d with
  | struct fa => exact ⟨fa, hu, by injection h1⟩
  | _ => simp [tkOf] at h1
theorem digest_slice {P : Program} {t e : TypeId} {s b : Nat} {zc : List V} (h : digest P t = some ⟨.slice e, s, b, zc⟩) : P.underlying t = some (.slice e) := by
  obtain ⟨d, i, z, hu, hi, hz, he, _⟩ := digest_spec h
  injection he with h1 h2 h3 h4
  cases d with
  | slice e' => injection h1 with h1; subst h1; exact hu
  | _ => simp [tkOf] at h1
theorem digest_size {P : Program} {t : TypeId} {I : TI} (h : digest P t = some I) : ∃ i, P.info? t = some i ∧ i.size = I.size ∧ i.bytes = I.bytes := by
  obtain ⟨d, i, z, hu, hi, hz, rfl, _⟩ := digest_spec h
  exact ⟨i, hi, rfl, rfl⟩
theorem digest_zero {P : Program} {t : TypeId} {I : TI} (h : digest P t = some I) : ∃ i z, P.info? t = some i ∧ i.zero = some z ∧ I.zc = z.cells.toList.map absV := by
  obtain ⟨d, i, z, hu, hi, hz, rfl, _⟩ := digest_spec h
  exact ⟨i, z, hi, hz, rfl⟩
theorem digest_scalar {P : Program} {t : TypeId} {I : TI} (h : digest P t = some I) (hk : ∀ fs, I.k ≠ .struct fs) (w : World) : (isAgg t).run P w = .ok false w := by
  obtain ⟨d, i, z, hu, hi, hz, rfl, hna⟩ := digest_spec h
  unfold isAgg
  rw [Sem.run_bind, run_underlying hu w]
  cases d <;> simp_all [tkOf]
theorem digest_isAgg {P : Program} {t : TypeId} {fs : List (Nat × TypeId)} {s b : Nat} {zc : List V} (h : digest P t = some ⟨.struct fs, s, b, zc⟩) (w : World) : (isAgg t).run P w = .ok true w := by
  obtain ⟨fa, hu, _⟩ := digest_struct h
  unfold isAgg
  rw [Sem.run_bind, run_underlying hu w]
  simp
theorem run_sizeOf_digest {P : Program} {t : TypeId} {I : TI} (h : digest P t = some I) (w : World) : (sizeOf t).run P w = .ok I.size w := by
  obtain ⟨i, hi, hs, _⟩ := digest_size h
  simp [sizeOf, typeInfo, hi, hs]
theorem absVs_den {M : Key → Option Value} {F : Nat → Prop} {w : World} : ∀ (us : List Value), DenVs M F w (us.map absV) us
  | [] => DenVs.nil
  | u :: r => DenVs.cons (absV_den u) (absVs_den r)
def cellsV : V → List V
  | .agg c => c
  | v => [v]
def okC : V → Bool
  | .unk | .tup _ => false
  | _ => true
def cut (c : List V) (o m : Nat) : List V := (c.drop o).take m
def splice (c : List V) (o : Nat) (x : List V) : List V := c.take o ++ x ++ c.drop (o + x.length)
def isStruct : TK → Bool
  | .struct _ => true
  | _ => false
def partV (I : TI) (c : List V) (o : Nat) (K : V → Prop) : Prop :=
  if isStruct I.k = true then (o + I.size ≤ c.length) ∧ K (.agg (cut c o I.size)) else match c[o]? with
    | some v => K v
    | none => False
def lenV : V → Option Nat
  | .d (.sl n _) => some n
  | .nil => some 0
  | .ref _ n => some n
  | .sub _ _ _ n => some n
  | _ => none
theorem lenV_den {M : Key → Option Value} {F : Nat → Prop} {w : World} {x : V} {n : Nat} {u : Value} (h : lenV x = some n) (hx : DenV M F w x u) : ∃ A cap, u = .slice A n cap ∧ (n = 0 ∨ ∃ b o, A = some ⟨b, o, none⟩) := by
  cases x with
  | d y =>
    cases y with
    | sl m c =>
      obtain rfl : m = n := by simpa [lenV] using h
      unfold DenV DenD at hx
      obtain ⟨A, cap, rfl, _, hz, _⟩ := hx
      exact ⟨A, cap, rfl, hz⟩
    | _ => simp [lenV] at h
  | nil =>
    obtain rfl : 0 = n := by simpa [lenV] using h
    unfold DenV at hx
    obtain ⟨A, rfl⟩ := hx
    exact ⟨A, 0, rfl, .inl rfl⟩
  | ref k m =>
    obtain rfl : m = n := by simpa [lenV] using h
    unfold DenV at hx
    obtain ⟨_, A, cap, rfl, hz, _⟩ := hx
    exact ⟨A, cap, rfl, hz⟩
  | sub k sz o m =>
    obtain rfl : m = n := by simpa [lenV] using h
    unfold DenV at hx
    obtain ⟨A0, n0, cap0, A, cap, _, _, rfl, _, hz⟩ := hx
    exact ⟨A, cap, rfl, hz.imp id fun ⟨b, o, _, h⟩ => ⟨_, _, h⟩⟩
  | _ => simp [lenV] at h
def intB (P : Program) (k : IntKind) (t : TypeId) : Bool := match digest P t with
  | some ⟨.int k', _, _, _⟩ => decide (k' = k)
  | _ => false
def eq2B (P : Program) (t : TypeId) (k : IntKind) : Bool := !P.stoodInHeld t && (!P.eqGuardType P.depth t && (match P.underlying t with
  | some (.struct fs) => (match fs.toList with
    | [f, g] => (f.name != "_" && g.name != "_") && ((f.offset == 0 && g.offset == 1) && (intB P k f.type && intB P k g.type))
    | _ => false)
  | _ => false))
def eqScal (P : Program) (t : TypeId) : V → Bool
  | .d (.int _ _) => (match digest P t with | some ⟨.int _, _, _, _⟩ => true | _ => false)
  | .d (.bool _) => (match digest P t with | some ⟨.bool, _, _, _⟩ => true | _ => false)
  | _ => false
def eqAll (P : Program) (eq : TypeId → V → Bool) (c : List V) : List Field → Bool
  | [] => true
  | f :: fs => f.name != "_" && ((match digest P f.type with
    | some I => if isStruct I.k = true then Nat.ble (f.offset + I.size) c.length && eq f.type (.agg (cut c f.offset I.size)) else (match c[f.offset]? with
      | some v => eq f.type v
      | none => false)
    | none => false) && eqAll P eq c fs)
def eqV (P : Program) : Nat → TypeId → V → Bool
  | n + 1, t, .agg c => (match P.underlying t with
    | some (.struct fs) => !P.stoodInHeld t && eqAll P (eqV P n) c fs.toList
    | _ => false)
  | _, t, v => eqScal P t v
def eq2S (P : Program) (t : TypeId) (c c' : List V) (K : V → Prop) : Prop := match c, c' with
  | [.d (.int k a), .d (.int k1 b)], [.d (.int k2 a'), .d (.int k3 b')] => (k1 = k ∧ k2 = k ∧ k3 = k) ∧ eq2B P t k = true ∧ K (.d (.bool (a == a' && b == b')))
  | c, c' => c = c' ∧ (P.eqGuardType P.depth t = false ∧ eqV P 4 t (.agg c) = true) ∧ K (.d (.bool true))
def andI (k : IntKind) (a b : Int) : Int := k.wrap (BitVec.ofInt k.bits a &&& BitVec.ofInt k.bits b).toNat
def xorI (k : IntKind) (a b : Int) : Int := k.wrap (BitVec.ofInt k.bits a ^^^ BitVec.ofInt k.bits b).toNat
def shrI (k : IntKind) (a b : Int) : Int := a.fdiv (2 ^ min b.toNat k.bits)
def bitS (op : BinOp) (k : IntKind) (a : Int) (k' : IntKind) (b : Int) (K : V → Prop) : Prop := match op with
  | .and => k = k' ∧ K (.d (.int k (andI k a b)))
  | .xor => k = k' ∧ K (.d (.int k (xorI k a b)))
  | .shr => 0 ≤ b ∧ K (.d (.int k (shrI k a b)))
  | _ => False
def bitB : BinOp → Bool
  | .and | .xor | .shr => true
  | _ => false
def binS (P : Program) (op : BinOp) (t : TypeId) (x y : V) (K : V → Prop) : Prop := match x, y with
  | .d (.int k a), .d (.int k' b) => if bitB op = true then bitS op k a k' b K else k = k' ∧ match op with
    | .add => K (.d (.int k (k.wrap (a + b))))
    | .sub => K (.d (.int k (k.wrap (a - b))))
    | .mul => K (.d (.int k (k.wrap (a * b))))
    | .quo => b ≠ 0 ∧ K (.d (.int k (k.wrap (a.tdiv b))))
    | .rem => b ≠ 0 ∧ K (.d (.int k (a.tmod b)))
    | .eql => K (.d (.bool (a == b)))
    | .neq => K (.d (.bool (a != b)))
    | .lss => K (.d (.bool (a < b)))
    | .leq => K (.d (.bool (a ≤ b)))
    | .gtr => K (.d (.bool (a > b)))
    | .geq => K (.d (.bool (a ≥ b)))
    | _ => False
  | .d (.bool a), .d (.bool b) => match digest P t with
    | some ⟨.bool, _, _, _⟩ => match op with
      | .eql => K (.d (.bool (a == b)))
      | .neq => K (.d (.bool (a != b)))
      | _ => False
    | _ => False
  | .agg c, .agg c' => match op with
    | .eql => eq2S P t c c' K
    | _ => False
  | _, _ => False
def unS (op : UnOp) (x : V) (K : V → Prop) : Prop := match op, x with
  | .not, .d (.bool b) => K (.d (.bool (!b)))
  | .neg, .d (.int k n) => K (.d (.int k (k.wrap (0 - n))))
  | _, _ => False
def fillV (P : Program) (fs : List (Nat × TypeId)) : List V → List (Nat × V) → Option (List V)
  | c, [] => some c
  | c, (i, v) :: r => match fs[i]? with
    | some (o, t) => match digest P t with
      | some I => if okC v = true ∧ (cellsV v).length = I.size ∧ o + I.size ≤ c.length then fillV P fs (splice c o (cellsV v)) r else none
      | none => none
    | none => none
def fillR (sz : Nat) : List V → List (Nat × V) → Option (List V)
  | c, [] => some c
  | c, (i, v) :: r => if okC v = true ∧ (cellsV v).length = sz ∧ i * sz + sz ≤ c.length then fillR sz (splice c (i * sz) (cellsV v)) r else none
def sliceS (sz : Nat) (x : V) (lo hi : Option V) (K : V → Prop) : Prop := match x with
  | .d (.sl n c) => match lo, hi with
    | none, none => K x
    | some (.d (.int _ l)), none => (0 ≤ l ∧ l ≤ n) ∧ K (.d (.sl (n - l.toNat) ((c.drop (l.toNat * sz)).take ((n - l.toNat) * sz))))
    | none, some (.d (.int _ h)) => (0 ≤ h ∧ h ≤ n) ∧ K (.d (.sl h.toNat (c.take (h.toNat * sz))))
    | some (.d (.int _ l)), some (.d (.int _ h)) => (0 ≤ l ∧ l ≤ h ∧ h ≤ n) ∧ K (.d (.sl (h.toNat - l.toNat) ((c.drop (l.toNat * sz)).take ((h.toNat - l.toNat) * sz))))
    | _, _ => False
  | .ref k n => match lo, hi with
    | some (.d (.int _ l)), none => (0 ≤ l ∧ l ≤ n) ∧ K (.sub k sz l.toNat (n - l.toNat))
    | none, some (.d (.int _ h)) => (0 ≤ h ∧ h ≤ n) ∧ K (.sub k sz 0 h.toNat)
    | _, _ => False
  | _ => False
def valS (P : Program) (op : Op) (ρ : Operand → V) (K : V → Prop) : Prop := match op with
  | .move x | .assign x => K (ρ x)
  | .pick c a b => match ρ c with
    | .d (.bool t) => K (if t = true then ρ a else ρ b)
    | _ => False
  | .build t ps => match digest P t with
    | some ⟨.struct fs, _, _, zc⟩ => (fs.all fun f => (digest P f.2).isSome) = true ∧ match fillV P fs zc (ps.toList.map fun p => (p.1, ρ p.2)) with
      | some c => K (.agg c)
      | none => False
    | _ => False
  | .binOp op t x y _ => binS P op t (ρ x) (ρ y) K
  | .unOp op _ x => unS op (ρ x) K
  | .convert s t x => match digest P s, digest P t, ρ x with
    | some ⟨.int _, _, _, _⟩, some ⟨.int k, _, _, _⟩, .d (.int _ n) => K (.d (.int k (k.wrap n)))
    | _, _, _ => False
  | .fieldAddr t x f => match digest P t with
    | some ⟨.struct fs, _, _, _⟩ => match fs[f]? with
      | some (o, ft) => match digest P ft with
        | some I => I.size ≠ 0 ∧ match ρ x with
          | .ptr k p => K (.ptr k (p + o))
          | .adr s p => K (.adr s (p + o))
          | _ => False
        | none => False
      | none => False
    | _ => False
  | .field t x f => match digest P t with
    | some ⟨.struct fs, _, _, _⟩ => match fs[f]? with
      | some (o, ft) => match digest P ft, ρ x with
        | some I, .agg c => partV I c o K
        | _, _ => False
      | none => False
    | _ => False
  | .indexAddr t x i => match digest P t with
    | some ⟨.slice e, _, _, _⟩ => match digest P e, ρ i, lenV (ρ x) with
      | some I, .d (.int _ n), some m => (0 ≤ n ∧ n < m) ∧ K (.adr (ρ x) (n.toNat * I.size))
      | _, _, _ => False
    | _ => False
  | .slice t x lo hi none => match digest P t with
    | some ⟨.slice e, _, _, _⟩ => match digest P e with
      | some I => sliceS I.size (ρ x) (lo.map ρ) (hi.map ρ) K
      | none => False
    | _ => False
  | .extract x i => match ρ x with
    | .tup c => match c[i]? with
      | some v => K v
      | none => False
    | _ => False
  | .nilCheck x => match ρ x with
    | .ptr k o => K (.ptr k o)
    | _ => False
  | .call ⟨.builtin .len, args, ts⟩ => match ts[0]?, args[0]? with
    | some t, some x => match digest P t, lenV (ρ x) with
      | some ⟨.slice _, _, _, _⟩, some n => K (.d (.int .i64 n))
      | _, _ => False
    | _, _ => False
  | .call ⟨.builtin .max, args, _⟩ => match args.toList with
    | [x, y] => match ρ x, ρ y with
      | .d (.int k a), .d (.int k' b) => K (.d (.int k (if b > a then b else a)))
      | _, _ => False
    | _ => False
  | .call ⟨.builtin .min, args, _⟩ => match args.toList with
    | [x, y] => match ρ x, ρ y with
      | .d (.int k a), .d (.int k' b) => K (.d (.int k (if b < a then b else a)))
      | _, _ => False
    | _ => False
  | _ => False
end Go.Proofs.YtjknjekemolndaaGreat.Abs
namespace Go.Proofs.YtjknjekemolndaaGreat.Abs
open Go Go.RowKit
set_option linter.unusedVariables false
set_option linter.unusedSimpArgs false
section
variable {P : Program}
theorem cellsV_den {M : Key → Option Value} {F : Nat → Prop} {w : World} {v : V} {u : Value} (h : DenV M F w v u) (hv : okC v = true) : DenVs M F w (cellsV v) u.cells.toList := by
  cases v with
  | unk => simp [okC] at hv
  | tup c => simp [okC] at hv
  | agg c => unfold DenV at h; obtain ⟨cs, rfl, hd⟩ := h; exact hd
  | d x =>
    have h1 : u.oneCell' = true := h.oneCell rfl
    have : u.cells = #[u] := by cases u <;> simp_all [Value.cells, Value.oneCell']
    rw [this]
    exact DenVs.cons h DenVs.nil
  | nil =>
    have h1 : u.oneCell' = true := h.oneCell rfl
    have : u.cells = #[u] := by cases u <;> simp_all [Value.cells, Value.oneCell']
    rw [this]
    exact DenVs.cons h DenVs.nil
  | ref k n =>
    have h1 : u.oneCell' = true := h.oneCell rfl
    have : u.cells = #[u] := by cases u <;> simp_all [Value.cells, Value.oneCell']
    rw [this]
    exact DenVs.cons h DenVs.nil
  | ptr k n =>
    have h1 : u.oneCell' = true := h.oneCell rfl
    have : u.cells = #[u] := by cases u <;> simp_all [Value.cells, Value.oneCell']
    rw [this]
    exact DenVs.cons h DenVs.nil
  | adr k n =>
    have h1 : u.oneCell' = true := h.oneCell rfl
    have : u.cells = #[u] := by cases u <;> simp_all [Value.cells, Value.oneCell']
    rw [this]
    exact DenVs.cons h DenVs.nil
  | fn k n =>
    have h1 : u.oneCell' = true := h.oneCell rfl
    have : u.cells = #[u] := by cases u <;> simp_all [Value.cells, Value.oneCell']
    rw [this]
    exact DenVs.cons h DenVs.nil
  | sub k z o n =>
    have h1 : u.oneCell' = true := h.oneCell rfl
    have : u.cells = #[u] := by cases u <;> simp_all [Value.cells, Value.oneCell']
    rw [this]
    exact DenVs.cons h DenVs.nil
theorem set_fold : ∀ (vc : List Value) (off k : Nat) (cells : Array Value), off + k + vc.length ≤ cells.size →
    ((vc.zipIdx k).foldl (fun (cs : Array Value) (p : Value × Nat) => cs.setIfInBounds (off + p.2) p.1) cells).toList = cells.toList.take (off + k) ++ vc ++ cells.toList.drop (off + k + vc.length)
  | [], off, k, cells, h => by simp
  | v :: r, off, k, cells, h => by
    simp only [List.length_cons] at h
    rw [List.zipIdx_cons, List.foldl_cons, set_fold r off (k + 1) _ (by simp; omega)]
    simp only [Array.toList_setIfInBounds, List.length_cons]
    have h1 : off + k < cells.toList.length := by simp; omega
    rw [List.take_set, List.drop_set_of_lt (by omega), ← Nat.add_assoc, List.take_add_one, List.set_append_right _ _ (by simp; omega)]
    simp [List.getElem?_eq_getElem h1]
    rw [show min (off + k) cells.size = off + k by omega]
    simp
    congr 1
    omega
theorem splice_den {M : Key → Option Value} {F : Nat → Prop} {w : World} {c x : List V} {us vs : List Value} (o : Nat) (h : DenVs M F w c us) (hx : DenVs M F w x vs) : DenVs M F w (splice c o x) (us.take o ++ vs ++ us.drop (o + vs.length)) := by
  unfold splice
  rw [← hx.length]
  exact ((h.take o).append hx).append (h.drop _)
theorem fill_one {M : Key → Option Value} {F : Nat → Prop} {w : World} {c : List V} {cells : Array Value} {v : V} {u : Value} {o sz : Nat} (h : DenVs M F w c cells.toList) (hu : DenV M F w v u)
    (h1 : okC v = true ∧ (cellsV v).length = sz ∧ o + sz ≤ c.length) :
    u.cells.size = sz ∧ ¬ (o + u.cells.size > cells.size) ∧ DenVs M F w (splice c o (cellsV v)) (u.cells.zipIdx.foldl (fun cs (p : Value × Nat) => cs.setIfInBounds (o + p.2) p.1) cells).toList := by
  obtain ⟨ho, hl, hle⟩ := h1
  have hd := cellsV_den hu ho
  have hs : u.cells.size = sz := by rw [← hl, ← hd.length]; simp
  have hc : cells.size = c.length := by rw [← h.length]; simp
  refine ⟨hs, by omega, ?_⟩
  have := set_fold u.cells.toList o 0 cells (by simp; omega)
  rw [← Array.foldl_toList, Array.toList_zipIdx]
  rw [this]
  exact splice_den o h hd
theorem fillV_den {M : Key → Option Value} {F : Nat → Prop} {w : World} {fs : List (Nat × TypeId)} {place : Nat → Option (Nat × Nat)}
    (hp : ∀ i o t I, fs[i]? = some (o, t) → digest P t = some I → place i = some (o, I.size)) {ρ : Operand → V} {ρc : Operand → Value} : ∀ {ps : List (Nat × Operand)} {c c' : List V} {cells : Array Value},
    fillV P fs c (ps.map fun p => (p.1, ρ p.2)) = some c' → DenVs M F w c cells.toList → (∀ p ∈ ps, DenV M F w (ρ p.2) (ρc p.2)) →
    ∃ cells', Instr.fill place cells (ps.map fun p => (p.1, ρc p.2)) = some cells' ∧ DenVs M F w c' cells'.toList
  | [], c, c', cells, h, hd, _ => by
    simp [fillV] at h; subst h
    exact ⟨cells, rfl, hd⟩
  | p :: ps, c, c', cells, h, hd, hq => by
    simp only [List.map_cons, fillV] at h
    cases hf : fs[p.1]? with
    | none => rw [hf] at h; simp at h
    | some ot =>
      obtain ⟨o, t⟩ := ot
      rw [hf] at h
      simp only at h
      cases hg : digest P t with
      | none => rw [hg] at h; simp at h
      | some I =>
        rw [hg] at h
        simp only at h
        split at h
        · rename_i hc
          obtain ⟨e1, e2, e3⟩ := fill_one hd (hq p List.mem_cons_self) hc
          obtain ⟨cells', e4, e5⟩ := fillV_den hp h e3 (fun q hq' => hq q (List.mem_cons_of_mem _ hq'))
          refine ⟨cells', ?_, e5⟩
          simp only [List.map_cons, Instr.fill, hp _ _ _ _ hf hg]
          rw [if_neg (by simp [e1]; omega)]
          exact e4
        · exact absurd h (by simp)
theorem fillR_den {M : Key → Option Value} {F : Nat → Prop} {w : World} {sz : Nat} {ρ : Operand → V} {ρc : Operand → Value} : ∀ {ps : List (Nat × Operand)} {c c' : List V} {cells : Array Value},
    fillR sz c (ps.map fun p => (p.1, ρ p.2)) = some c' → DenVs M F w c cells.toList → (∀ p ∈ ps, DenV M F w (ρ p.2) (ρc p.2)) →
    ∃ cells', Instr.fill (fun i => some (i * sz, sz)) cells (ps.map fun p => (p.1, ρc p.2)) = some cells' ∧ DenVs M F w c' cells'.toList
  | [], c, c', cells, h, hd, _ => by
    simp [fillR] at h; subst h
    exact ⟨cells, rfl, hd⟩
  | p :: ps, c, c', cells, h, hd, hq => by
    simp only [List.map_cons, fillR] at h
    split at h
    · rename_i hc
      obtain ⟨e1, e2, e3⟩ := fill_one hd (hq p List.mem_cons_self) hc
      obtain ⟨cells', e4, e5⟩ := fillR_den h e3 (fun q hq' => hq q (List.mem_cons_of_mem _ hq'))
      refine ⟨cells', ?_, e5⟩
      simp only [List.map_cons, Instr.fill]
      rw [if_neg (by simp [e1]; omega)]
      exact e4
    · exact absurd h (by simp)
theorem partV_den {I : TI} {t : TypeId} (ht : digest P t = some I) {c : List V} {o : Nat} {K : V → Prop} (h : partV I c o K) :
    ∃ v, K v ∧ ∀ (M : Key → Option Value) (F : Nat → Prop) (w w1 : World) (cs : Array Value), DenVs M F w c cs.toList → ∃ u, (part t cs o).run P w1 = .ok u w1 ∧ DenV M F w v u := by
  unfold partV at h
  split at h
  · rename_i hs
    refine ⟨_, h.2, fun M F w w1 cs hd => ?_⟩
    obtain ⟨k, s, b, zc⟩ := I
    obtain ⟨fs, rfl⟩ : ∃ fs, k = .struct fs := by cases k <;> first | exact ⟨_, rfl⟩ | (simp [isStruct] at hs)
    refine ⟨_, by simp only [part, Sem.run_bind, digest_isAgg ht, Result.andThen_ok, if_true, run_sizeOf_digest ht, Sem.run_pure]; rfl, ?_⟩
    unfold DenV
    refine ⟨_, rfl, ?_⟩
    simp only [Array.toList_extract, cut]
    rw [List.extract_eq_take_drop, show o + s - o = s by omega]
    exact (hd.drop o).take s
  · rename_i hs
    cases hg : c[o]? with
    | none => rw [hg] at h; exact h.elim
    | some v =>
      rw [hg] at h
      refine ⟨v, h, fun M F w w1 cs hd => ?_⟩
      obtain ⟨u, hu, hv⟩ := hd.get hg
      have hu' : cs[o]? = some u := by simpa using hu
      refine ⟨u, ?_, hv⟩
      have hk : ∀ fs, I.k ≠ .struct fs := by rintro fs he; rw [he] at hs; simp [isStruct] at hs
      simp only [part, Sem.run_bind, digest_scalar ht hk, Result.andThen_ok, hu']
      rfl
theorem sliceS_den {t e : TypeId} {sz : Nat} (ht : P.underlying t = some (.slice e)) (hs : ∀ w, (sizeOf e).run P w = .ok sz w) {x : V} {lo hi : Option V} {K : V → Prop} (h : sliceS sz x lo hi K) :
    ∃ v, K v ∧ ∀ (M : Key → Option Value) (F : Nat → Prop) (w : World) (u : Value) (lou hiu : Option Value), DenV M F w x u → (∀ y, lo = some y → ∃ z, lou = some z ∧ DenV M F w y z) → (lo = none → lou = none) →
      (∀ y, hi = some y → ∃ z, hiu = some z ∧ DenV M F w y z) → (hi = none → hiu = none) → ∃ r, (Instr.sliceAt t u lou hiu none).run P w = .ok r w ∧ DenV M F w v r := by
  have key : ∀ (n : Nat) (c : List D) (l hh : Nat), l ≤ hh → hh ≤ n → ∀ (M : Key → Option Value) (F : Nat → Prop) (w : World) (A : Option Addr) (cap : Nat), n ≤ cap → (n = 0 ∨ ∃ b o, A = some ⟨b, o, none⟩) → (c = [] ∨ ∃ b o, A = some ⟨b, o, none⟩ ∧ ¬ F b ∧ DenDs F w c b o) →
      DenV M F w (.d (.sl (hh - l) ((c.drop (l * sz)).take ((hh - l) * sz)))) (.slice (if cap = l then A else A.map (·.add (l * sz))) (hh - l) (cap - l)) := by
    intro n c l hh h1 h2 M F w A cap h3 h4 h5
    unfold DenV DenD
    refine ⟨_, _, rfl, by omega, ?_, ?_⟩
    · rcases h4 with h4 | ⟨b, o, rfl⟩
      · left; omega
      · by_cases hc : cap = l
        · left; omega
        · rw [if_neg hc]
          exact .inr ⟨b, o + l * sz, by simp [Addr.add_mid]⟩
    · rcases h5 with rfl | ⟨b, o, rfl, hb, hd⟩
      · left; simp
      · by_cases hc : cap = l
        · left
          rw [show hh - l = 0 by omega]; simp
        · rw [if_neg hc]
          exact .inr ⟨b, o + l * sz, by simp [Addr.add_mid], hb, (hd.drop _).take _⟩
  have key2 : ∀ (k : Key) (n l hh : Nat), l ≤ hh → hh ≤ n → ∀ (M : Key → Option Value) (F : Nat → Prop) (w : World) (A : Option Addr) (cap : Nat), M k = some (.slice A n cap) → n ≤ cap → (n = 0 ∨ ∃ b o, A = some ⟨b, o, none⟩) →
      DenV M F w (.sub k sz l (hh - l)) (.slice (if cap = l then A else A.map (·.add (l * sz))) (hh - l) (cap - l)) := by
    intro k n l hh h1 h2 M F w A cap hM h3 h4
    unfold DenV
    refine ⟨A, n, cap, _, _, hM, by omega, rfl, by omega, ?_⟩
    by_cases h0 : hh - l = 0
    · exact .inl h0
    · rcases h4 with h4 | ⟨b, o, rfl⟩
      · omega
      · rw [if_neg (by omega)]
        exact .inr ⟨b, o, rfl, by simp [Addr.add_mid]⟩
  unfold sliceS at h
  split at h
  · rename_i n c
    split at h
    · refine ⟨_, h, fun M F w u lou hiu hu _ hl _ hh => ?_⟩
      obtain rfl := hl rfl
      obtain rfl := hh rfl
      have hu' := hu
      unfold DenV DenD at hu'
      obtain ⟨A, cap, rfl, hn, hz, hc⟩ := hu'
      refine ⟨.slice A n cap, ?_, hu⟩
      simp only [Instr.sliceAt, Sem.run_bind, run_underlying ht, Result.andThen_ok, Instr.slice, Instr.sliceBounds, Sem.run_pure, hs]
      cases A with
      | none => simp
      | some a => simp [Addr.add]
    · rename_i k l
      refine ⟨_, h.2, fun M F w u lou hiu hu hlo _ _ hh => ?_⟩
      obtain ⟨z, rfl, hz0⟩ := hlo _ rfl
      obtain rfl := hz0.int
      obtain rfl := hh rfl
      unfold DenV DenD at hu
      obtain ⟨A, cap, rfl, hn, hz, hc⟩ := hu
      have h1 := h.1
      refine ⟨_, ?_, key n c l.toNat n (by omega) (Nat.le_refl _) M F w A cap hn hz hc⟩
      simp only [Instr.sliceAt, Sem.run_bind, run_underlying ht, Result.andThen_ok, Instr.slice, Instr.sliceBounds, Sem.run_pure, hs, Instr.sliceBound, asIntOf]
      rw [if_pos ⟨h1.1, h1.2⟩]
      simp
    · rename_i k hh0
      refine ⟨_, h.2, fun M F w u lou hiu hu _ hl hhi _ => ?_⟩
      obtain ⟨z, rfl, hz0⟩ := hhi _ rfl
      obtain rfl := hz0.int
      obtain rfl := hl rfl
      unfold DenV DenD at hu
      obtain ⟨A, cap, rfl, hn, hz, hc⟩ := hu
      have h1 := h.1
      have := key n c 0 hh0.toNat (by omega) (by omega) M F w A cap hn hz hc
      refine ⟨_, ?_, by simpa using this⟩
      simp only [Instr.sliceAt, Sem.run_bind, run_underlying ht, Result.andThen_ok, Instr.slice, Instr.sliceBounds, Sem.run_pure, hs, Instr.sliceBound, asIntOf]
      rw [if_pos ⟨h1.1, by omega⟩]
      simp
    · rename_i k l k' hh0
      refine ⟨_, h.2, fun M F w u lou hiu hu hlo _ hhi _ => ?_⟩
      obtain ⟨z, rfl, hz0⟩ := hlo _ rfl
      obtain rfl := hz0.int
      obtain ⟨z', rfl, hz1⟩ := hhi _ rfl
      obtain rfl := hz1.int
      unfold DenV DenD at hu
      obtain ⟨A, cap, rfl, hn, hz, hc⟩ := hu
      have h1 := h.1
      refine ⟨_, ?_, key n c l.toNat hh0.toNat (by omega) (by omega) M F w A cap hn hz hc⟩
      simp only [Instr.sliceAt, Sem.run_bind, run_underlying ht, Result.andThen_ok, Instr.slice, Instr.sliceBounds, Sem.run_pure, hs, Instr.sliceBound, asIntOf]
      rw [if_pos ⟨by omega, by omega⟩]
      simp only [Sem.run_pure, Result.andThen_ok]
      rw [if_pos ⟨h1.1, by omega⟩]
      simp
    · exact h.elim
  · rename_i k n
    split at h
    · rename_i k' l
      refine ⟨_, h.2, fun M F w u lou hiu hu hlo _ _ hh => ?_⟩
      obtain ⟨z, rfl, hz0⟩ := hlo _ rfl
      obtain rfl := hz0.int
      obtain rfl := hh rfl
      unfold DenV at hu
      obtain ⟨hM, A, cap, rfl, hz, hn⟩ := hu
      have h1 := h.1
      refine ⟨_, ?_, key2 k n l.toNat n (by omega) (Nat.le_refl _) M F w A cap hM hn hz⟩
      simp only [Instr.sliceAt, Sem.run_bind, run_underlying ht, Result.andThen_ok, Instr.slice, Instr.sliceBounds, Sem.run_pure, hs, Instr.sliceBound, asIntOf]
      rw [if_pos ⟨h1.1, h1.2⟩]
      simp
    · rename_i k' hh0
      refine ⟨_, h.2, fun M F w u lou hiu hu _ hl hhi _ => ?_⟩
      obtain ⟨z, rfl, hz0⟩ := hhi _ rfl
      obtain rfl := hz0.int
      obtain rfl := hl rfl
      unfold DenV at hu
      obtain ⟨hM, A, cap, rfl, hz, hn⟩ := hu
      have h1 := h.1
      have := key2 k n 0 hh0.toNat (by omega) (by omega) M F w A cap hM hn hz
      refine ⟨_, ?_, by simpa using this⟩
      simp only [Instr.sliceAt, Sem.run_bind, run_underlying ht, Result.andThen_ok, Instr.slice, Instr.sliceBounds, Sem.run_pure, hs, Instr.sliceBound, asIntOf]
      rw [if_pos ⟨h1.1, by omega⟩]
      simp
    · exact h.elim
  · exact h.elim
end
end Go.Proofs.YtjknjekemolndaaGreat.Abs
