/- Texts of the abs road (plain values, what code does to them, and the contracts of the functions that the law reaches). No condition. -/
import Derived.Test.YtjknjekemolndaaGreatG4FnExactNeatRegion
import Derived.Orders
namespace Go.Proofs.YtjknjekemolndaaGreat.Abs
open Go Go.RowKit
set_option linter.unusedVariables false
set_option linter.unusedSimpArgs false
def pairOk (r : Bool) (ops : Array Oper) (B : List Nat) (i j : Nat) (oi oj : Oper) : Bool :=
  (if i < j then befB B i j else befB B j i) || ((match oj.dst with | some d => !(oi.looksAt ops).contains d && oi.dst != some d | none => true) && (!noisyQ r ops oj.op || valB oi.op || (r && (loadRoot ops i oi.op).isSome) || (r && isAlloc oi.op && decide (j < i))))
def okDraw (r : Bool) (ops : Array Oper) : Bool :=
  (List.range ops.size).all fun i => match ops[i]? with
    | some oi => (oi.after.toList.all fun e => !Region.binds .any e || decide (e.on < i)) && (List.range ops.size).all fun j => j == i || match ops[j]? with
      | some oj => pairOk r ops (masks ops.toList []) i j oi oj
      | none => true
    | none => true
theorem maskOf_bit {acc : List Nat} {o : Oper} {i : Nat} (h : (maskOf acc o).testBit i = true) : ∃ e ∈ o.after.toList, Region.binds .any e = true ∧ (e.on = i ∨ (acc.getD e.on 0).testBit i = true) := by
  unfold maskOf at h
  generalize o.after.toList = l at h
  induction l with
  | nil => simp at h
  | cons e r ih =>
    simp only [List.foldr_cons] at h
    by_cases hb : Region.binds .any e = true
    · rw [if_pos hb] at h
      rw [Nat.testBit_or, Nat.testBit_or, Bool.or_eq_true, Bool.or_eq_true] at h
      rcases h with (h | h) | h
      · rw [Nat.testBit_two_pow] at h
        exact ⟨e, List.mem_cons_self, hb, .inl (by simpa using h)⟩
      · exact ⟨e, List.mem_cons_self, hb, .inr h⟩
      · obtain ⟨e', h1, h2⟩ := ih h
        exact ⟨e', List.mem_cons_of_mem _ h1, h2⟩
    · rw [if_neg hb] at h
      obtain ⟨e', h1, h2⟩ := ih h
      exact ⟨e', List.mem_cons_of_mem _ h1, h2⟩
theorem masks_prefix : ∀ (l : List Oper) (acc : List Nat) (j : Nat), j < acc.length → (masks l acc).getD j 0 = acc.getD j 0
  | [], acc, j, h => rfl
  | o :: r, acc, j, h => by
    unfold masks
    rw [masks_prefix r _ j (by simp; omega)]
    simp [List.getD, List.getElem?_append_left h]
theorem masks_bit : ∀ (l : List Oper) (acc : List Nat) (j i : Nat) (o : Oper), l[j]? = some o → ((masks l acc).getD (acc.length + j) 0).testBit i = true →
    ∃ e ∈ o.after.toList, Region.binds .any e = true ∧ (e.on = i ∨ (e.on < acc.length + j ∧ ((masks l acc).getD e.on 0).testBit i = true))
  | [], acc, j, i, o, ho, h => by simp at ho
  | o' :: r, acc, 0, i, o, ho, h => by
    simp at ho; subst ho
    unfold masks at h
    rw [masks_prefix r _ _ (by simp)] at h
    simp only [Nat.add_zero, List.getD] at h
    rw [List.getElem?_append_right (Nat.le_refl _)] at h
    simp at h
    obtain ⟨e, h1, h2, h3⟩ := maskOf_bit h
    refine ⟨e, h1, h2, h3.imp id fun h4 => ?_⟩
    have hlt : e.on < acc.length := by
      rcases Nat.lt_or_ge e.on acc.length with h5 | h5
      · exact h5
      · simp [List.getD, List.getElem?_eq_none h5] at h4
    refine ⟨by omega, ?_⟩
    unfold masks
    rw [masks_prefix r _ _ (by simp; omega)]
    simp only [List.getD, List.getElem?_append_left hlt]
    exact h4
  | o' :: r, acc, j + 1, i, o, ho, h => by
    simp at ho
    unfold masks at h ⊢
    have hl : (acc ++ [maskOf acc o']).length + j = acc.length + (j + 1) := by simp; omega
    have := masks_bit r (acc ++ [maskOf acc o']) j i o ho (by rw [hl]; exact h)
    rw [hl] at this
    exact this
section
variable {P : Program} {N : Nat} {O : List Nat} {w0 : Base} {F0 E0 fr : Nat → Prop}
def vOf : Option Eff → V
  | some E => E.v
  | none => .tup []
def uOf : Option Eff → Key → Option (Option Ent)
  | some E => E.up
  | none => noUp
def dstAt (ops : List Oper) (i : Nat) : Option Nat := (ops[i]?).bind (·.dst)
def TD (ops : List Oper) (E : Nat → Option Eff) (T : Nat → V) (D : Nat → Bool) : Nat → Nat → V
  | 0 => T
  | i + 1 => if D i = true then putT (dstAt ops i) (vOf (E i)) (TD ops E T D i) else TD ops E T D i
def HD (E : Nat → Option Eff) (H : Store) (D : Nat → Bool) : Nat → Store
  | 0 => H
  | i + 1 => if D i = true then app (uOf (E i)) (HD E H D i) else HD E H D i
def full : Nat → Bool := fun _ => true
def StepOk (P : Program) (N nx : Nat) (rt : Bool) (ops : Array Oper) (i : Nat) (T : Nat → V) (H : Store) (o : Oper) : Option Eff → Prop
  | some E => OpOk P N nx (nx + i) H o (evV T) E ∧ (valB o.op = true → E.rd = [] ∧ E.md = [] ∧ E.up = noUp) ∧ (E.md = [] ∨ (noisyQ rt ops o.op = true ∧ (rt = true → ∀ b ∈ rootsOf ops i, offB (T b) E.md))) ∧ (∀ j w, o.guard = some (j, w) → guardV ops T j = .d (.bool w)) ∧ Ext o (evV T) E
  | none => ∃ j w, o.guard = some (j, w) ∧ noWant ops T j w
theorem TD_shift (o : Oper) (r : List Oper) (e : Option Eff) (E : Nat → Option Eff) (T : Nat → V) : ∀ j, TD (o :: r) (fun k => match k with | 0 => e | k + 1 => E k) T full (j + 1) = TD r E (putT o.dst (vOf e) T) full j
  | 0 => by simp [TD, full, dstAt]
  | j + 1 => by
    have ih := TD_shift o r e E T j
    rw [TD, if_pos (show full (j + 1) = true from rfl), ih, TD, if_pos (show full j = true from rfl)]
    simp [dstAt]
theorem HD_shift (e : Option Eff) (E : Nat → Option Eff) (H : Store) : ∀ j, HD (fun k => match k with | 0 => e | k + 1 => E k) H full (j + 1) = HD E (app (uOf e) H) full j
  | 0 => by simp [HD, full]
  | j + 1 => by
    have ih := HD_shift e E H j
    rw [HD, if_pos (show full (j + 1) = true from rfl), ih, HD, if_pos (show full j = true from rfl)]
theorem runO_rec {nx : Nat} {ops : Array Oper} {K : (Nat → V) → Store → Prop} : ∀ (l : List Oper) (i : Nat) (T : Nat → V) (H : Store), runO P N O true nx ops l i T H K →
    ∃ E : Nat → Option Eff, (∀ j o, l[j]? = some o → StepOk P N nx (rooted O) ops (i + j) (TD l E T full j) (HD E H full j) o (E j)) ∧ K (TD l E T full l.length) (HD E H full l.length)
  | [], i, T, H, h => ⟨fun _ => none, fun j o h => by simp at h, h⟩
  | o :: r, i, T, H, h => by
    have fin : ∀ (e : Option Eff), StepOk P N nx (rooted O) ops i T H o e → runO P N O true nx ops r (i + 1) (putT o.dst (vOf e) T) (app (uOf e) H) K →
        ∃ E : Nat → Option Eff, (∀ j o', (o :: r)[j]? = some o' → StepOk P N nx (rooted O) ops (i + j) (TD (o :: r) E T full j) (HD E H full j) o' (E j)) ∧ K (TD (o :: r) E T full (o :: r).length) (HD E H full (o :: r).length) := by
      intro e he hr
      obtain ⟨E, h1, h2⟩ := runO_rec r (i + 1) _ _ hr
      refine ⟨fun k => match k with | 0 => e | k + 1 => E k, fun j o' hj => ?_, ?_⟩
      · cases j with
        | zero => simp at hj; subst hj; exact he
        | succ j =>
          rw [TD_shift, HD_shift, show i + (j + 1) = i + 1 + j by omega]
          exact h1 j o' (by simpa using hj)
      · rw [List.length_cons, TD_shift, HD_shift]
        exact h2
    have some_ : (∀ j w, o.guard = some (j, w) → guardV ops T j = .d (.bool w)) → opS P N O nx (nx + i) H o (evV T) (fun E => mdOk true (rooted O) ops i o.op T E.md ∧ runO P N O true nx ops r (i + 1) (putT o.dst E.v T) (app E.up H) K) →
        ∃ E : Nat → Option Eff, (∀ j o', (o :: r)[j]? = some o' → StepOk P N nx (rooted O) ops (i + j) (TD (o :: r) E T full j) (HD E H full j) o' (E j)) ∧ K (TD (o :: r) E T full (o :: r).length) (HD E H full (o :: r).length) := by
      intro hg h
      obtain ⟨E, ⟨⟨hm, hr⟩, hx⟩, hok, hv⟩ := opS_sound (opS_ext h)
      refine fin (some E) ⟨hok, hv, ?_, hg, hx⟩ hr
      cases hmd : E.md with
      | nil => exact .inl rfl
      | cons k m =>
        rw [hmd] at hm
        cases hr : rooted O with
        | false => rw [hr] at hm; exact .inr ⟨by unfold noisyQ; rw [show noisyS ops o.op = true from hm]; rfl, fun h => absurd h (by simp)⟩
        | true => rw [hr] at hm; exact .inr ⟨hm.1, fun _ => hm.2⟩
    unfold runO at h
    split at h
    · rename_i hg
      exact some_ (fun j w hjw => by rw [hg] at hjw; exact absurd hjw (by simp)) h
    · rename_i j w hg
      unfold ifB at h
      split at h
      · rename_i b hb
        by_cases hbw : b = w
        · refine some_ (fun j' w' hjw => ?_) (h.1 hbw)
          rw [hg] at hjw
          simp only [Option.some.injEq, Prod.mk.injEq] at hjw
          obtain ⟨rfl, rfl⟩ := hjw
          rw [hb, hbw]
        · have hb' : b = !w := by cases b <;> cases w <;> simp_all
          exact fin none ⟨j, w, hg, .inl (by rw [hb, hb'])⟩ (h.2 hb')
      · rename_i hb
        exact fin none ⟨j, w, hg, .inr hb⟩ h
      · exact h.elim
theorem TD_agree {ops : List Oper} {E : Nat → Option Eff} {T : Nat → V} {D D' : Nat → Bool} {t : Nat} : ∀ m, (∀ j, j < m → dstAt ops j = some t → D j = D' j) → TD ops E T D m t = TD ops E T D' m t
  | 0, _ => rfl
  | m + 1, h => by
    have ih := TD_agree (E := E) (T := T) m (fun j hj => h j (by omega))
    simp only [TD]
    by_cases hd : dstAt ops m = some t
    · have := h m (by omega) hd
      rw [hd, this]
      split
      · simp [putT, tput]
      · exact ih
    · have hput : ∀ X : Nat → V, putT (dstAt ops m) (vOf (E m)) X t = X t := by
        intro X
        cases hq : dstAt ops m with
        | none => rfl
        | some d =>
          simp only [putT, tput]
          rw [if_neg]
          rintro rfl
          exact hd hq
      split <;> split <;> simp only [hput, ih]
theorem HD_agree {E : Nat → Option Eff} {H : Store} {D D' : Nat → Bool} {k : Key} : ∀ m, (∀ j, j < m → uOf (E j) k ≠ none → D j = D' j) → HD E H D m k = HD E H D' m k
  | 0, _ => rfl
  | m + 1, h => by
    have ih := HD_agree (E := E) (H := H) m (fun j hj => h j (by omega))
    simp only [HD]
    cases hu : uOf (E m) k with
    | none =>
      have : ∀ X : Store, app (uOf (E m)) X k = X k := by intro X; unfold app; rw [hu]
      split <;> split <;> simp only [this, ih]
    | some e =>
      have := h m (by omega) (by rw [hu]; simp)
      rw [this]
      split
      · unfold app; rw [hu]
      · exact ih
def below (i : Nat) : Nat → Bool := fun j => decide (j < i)
theorem TD_below {ops : List Oper} {E : Nat → Option Eff} {T : Nat → V} {i : Nat} : ∀ m, i ≤ m → TD ops E T (below i) m = TD ops E T full i := by
  have h1 : ∀ m, m ≤ i → TD ops E T (below i) m = TD ops E T full m := by
    intro m
    induction m with
    | zero => intro _; rfl
    | succ m ih => intro hm; simp only [TD]; rw [ih (by omega)]; simp [below, full, show m < i by omega]
  intro m hm
  induction m with
  | zero => obtain rfl : i = 0 := by omega
            rfl
  | succ m ih =>
    by_cases h : i = m + 1
    · subst h; exact h1 _ (Nat.le_refl _)
    · simp only [TD]
      rw [if_neg (by simp [below]; omega)]
      exact ih (by omega)
theorem HD_below {E : Nat → Option Eff} {H : Store} {i : Nat} : ∀ m, i ≤ m → HD E H (below i) m = HD E H full i := by
  have h1 : ∀ m, m ≤ i → HD E H (below i) m = HD E H full m := by
    intro m
    induction m with
    | zero => intro _; rfl
    | succ m ih => intro hm; simp only [HD]; rw [ih (by omega)]; simp [below, full, show m < i by omega]
  intro m hm
  induction m with
  | zero => obtain rfl : i = 0 := by omega
            rfl
  | succ m ih =>
    by_cases h : i = m + 1
    · subst h; exact h1 _ (Nat.le_refl _)
    · simp only [HD]
      rw [if_neg (by simp [below]; omega)]
      exact ih (by omega)
def addD (D : Nat → Bool) (i : Nat) : Nat → Bool := fun j => if j = i then true else D j
theorem putT_comm {d d' : Option Nat} {v v' : V} {T : Nat → V} (h : ∀ t, d = some t → d' ≠ some t) : putT d v (putT d' v' T) = putT d' v' (putT d v T) := by
  cases d with
  | none => rfl
  | some a =>
    cases d' with
    | none => rfl
    | some b =>
      have hab : a ≠ b := fun e => h a rfl (by rw [e])
      funext j
      simp only [putT, tput]
      by_cases h1 : j = a
      · have h2 : ¬ j = b := fun h2 => hab (h1.symm.trans h2)
        rw [if_pos h1, if_neg h2, if_pos h1]
      · rw [if_neg h1]
        by_cases h2 : j = b
        · rw [if_pos h2, if_pos h2]
        · rw [if_neg h2, if_neg h2, if_neg h1]
theorem app_comm {u u' : Key → Option (Option Ent)} {H : Store} (h : ∀ k, u k ≠ none → u' k = none) : app u (app u' H) = app u' (app u H) := by
  funext k
  unfold app
  cases hu : u k with
  | none => cases hu' : u' k <;> rfl
  | some e => rw [h k (by rw [hu]; simp)]
theorem TD_add {ops : List Oper} {E : Nat → Option Eff} {T : Nat → V} {D : Nat → Bool} {i : Nat} (hi : D i = false) : ∀ m, i < m → (∀ j, j < m → i < j → D j = true → ∀ t, dstAt ops j = some t → dstAt ops i ≠ some t) →
    TD ops E T (addD D i) m = putT (dstAt ops i) (vOf (E i)) (TD ops E T D m) := by
  have h0 : ∀ m, m ≤ i → TD ops E T (addD D i) m = TD ops E T D m := by
    intro m
    induction m with
    | zero => intro _; rfl
    | succ m ih => intro hm; simp only [TD]; rw [ih (by omega)]; simp [addD, show m ≠ i by omega]
  intro m
  induction m with
  | zero => intro h; omega
  | succ m ih =>
    intro hm hd
    simp only [TD]
    by_cases h : m = i
    · subst h
      rw [h0 m (Nat.le_refl _)]
      simp [addD, hi]
    · have := ih (by omega) (fun j hj => hd j (by omega))
      rw [this]
      have he : addD D i m = D m := by simp [addD, h]
      rw [he]
      split
      · rename_i hDm
        exact putT_comm (fun t ht => hd m (by omega) (by omega) hDm t ht)
      · rfl
theorem HD_add {E : Nat → Option Eff} {H : Store} {D : Nat → Bool} {i : Nat} (hi : D i = false) : ∀ m, i < m → (∀ j, j < m → i < j → D j = true → ∀ k, uOf (E j) k ≠ none → uOf (E i) k = none) →
    HD E H (addD D i) m = app (uOf (E i)) (HD E H D m) := by
  have h0 : ∀ m, m ≤ i → HD E H (addD D i) m = HD E H D m := by
    intro m
    induction m with
    | zero => intro _; rfl
    | succ m ih => intro hm; simp only [HD]; rw [ih (by omega)]; simp [addD, show m ≠ i by omega]
  intro m
  induction m with
  | zero => intro h; omega
  | succ m ih =>
    intro hm hd
    simp only [HD]
    by_cases h : m = i
    · subst h
      rw [h0 m (Nat.le_refl _)]
      simp [addD, hi]
    · have := ih (by omega) (fun j hj => hd j (by omega))
      rw [this]
      have he : addD D i m = D m := by simp [addD, h]
      rw [he]
      split
      · rename_i hDm
        exact app_comm (fun k hk => hd m (by omega) (by omega) hDm k hk)
      · rfl
end
end Go.Proofs.YtjknjekemolndaaGreat.Abs
namespace Go.Proofs.YtjknjekemolndaaGreat.Abs
open Go Go.RowKit
set_option linter.unusedVariables false
set_option linter.unusedSimpArgs false
section
variable {P : Program} {N : Nat} {O : List Nat} {w0 : Base} {F0 E0 : Nat → Prop}
def cf (D : Nat → Bool) : Nat → Nat
  | 0 => 0
  | n + 1 => cf D n + if D n = true then 0 else 1
theorem cf_add {D : Nat → Bool} {i : Nat} (hi : D i = false) : ∀ n, i < n → cf (addD D i) n + 1 = cf D n := by
  have h0 : ∀ n, n ≤ i → cf (addD D i) n = cf D n := by
    intro n
    induction n with
    | zero => intro _; rfl
    | succ n ih => intro h; simp only [cf]; rw [ih (by omega)]; simp [addD, show n ≠ i by omega]
  intro n
  induction n with
  | zero => intro h; omega
  | succ n ih =>
    intro h
    simp only [cf]
    by_cases hn : n = i
    · subst hn
      rw [h0 n (Nat.le_refl _)]
      simp [addD, hi]
    · have := ih (by omega)
      have he : addD D i n = D n := by simp [addD, hn]
      rw [he]
      split <;> omega
theorem cf_zero {D : Nat → Bool} : ∀ n, cf D n = 0 → ∀ j, j < n → D j = true
  | 0, _, j, h => by omega
  | n + 1, hc, j, h => by
    simp only [cf] at hc
    by_cases hn : D n = true
    · rw [if_pos hn] at hc
      by_cases hj : j = n
      · subst hj; exact hn
      · exact cf_zero n (by omega) j (by omega)
    · rw [if_neg hn] at hc; omega
structure Static (rt : Bool) (ops : Array Oper) : Prop where
  early : ∀ i o, ops[i]? = some o → ∀ e ∈ o.after, Region.binds .any e = true → e.on < i
  pair : ∀ i j oi oj, i ≠ j → ops[i]? = some oi → ops[j]? = some oj → pairOk rt ops (masks ops.toList []) i j oi oj = true
theorem okDraw_static {rt : Bool} {ops : Array Oper} (h : okDraw rt ops = true) : Static rt ops := by
  unfold okDraw at h
  rw [List.all_eq_true] at h
  constructor
  · intro i o ho e he hb
    have hi := (Array.getElem?_eq_some_iff.1 ho).1
    have h1 := h i (List.mem_range.2 hi)
    rw [ho] at h1
    simp only [Bool.and_eq_true] at h1
    have h2 := List.all_eq_true.1 h1.1 e (by simpa using he)
    simpa [hb] using h2
  · intro i j oi oj hij hoi hoj
    have hi := (Array.getElem?_eq_some_iff.1 hoi).1
    have hj := (Array.getElem?_eq_some_iff.1 hoj).1
    have h1 := h i (List.mem_range.2 hi)
    rw [hoi] at h1
    simp only [Bool.and_eq_true] at h1
    have h2 := List.all_eq_true.1 h1.2 j (List.mem_range.2 hj)
    rw [hoj] at h2
    simpa [Ne.symm hij] using h2
def ClosedD (ops : Array Oper) (D : Nat → Bool) : Prop := ∀ j o, D j = true → ops[j]? = some o → ∀ e ∈ o.after, Region.binds .any e = true → D e.on = true
theorem bef_closed {ops : Array Oper} {D : Nat → Bool} (hc : ClosedD ops D) : ∀ j i, j < ops.size → befB (masks ops.toList []) i j = true → D j = true → D i = true := by
  intro j
  induction j using Nat.strongRecOn with
  | _ j ih =>
    intro i hj hb hD
    have ho : ops.toList[j]? = some ops[j] := by simp [hj]
    obtain ⟨e, h1, h2, h3⟩ := masks_bit ops.toList [] j i ops[j] ho (by simpa [befB] using hb)
    have hDe := hc j ops[j] hD (by simp [hj]) e (by simpa using h1) h2
    rcases h3 with rfl | ⟨h4, h5⟩
    · exact hDe
    · simp at h4
      exact ih e.on h4 i (by omega) h5 hDe
theorem bef_ready {ops : Array Oper} {D : Nat → Bool} (hc : ClosedD ops D) {j i : Nat} {o : Oper} (ho : ops[j]? = some o) (hr : ∀ e ∈ o.after, Region.binds .any e = true → D e.on = true) (hb : befB (masks ops.toList []) i j = true) : D i = true := by
  have hj := (Array.getElem?_eq_some_iff.1 ho).1
  have ho' : ops.toList[j]? = some o := by simpa using ho
  obtain ⟨e, h1, h2, h3⟩ := masks_bit ops.toList [] j i o ho' (by simpa [befB] using hb)
  have hDe := hr e (by simpa using h1) h2
  rcases h3 with rfl | ⟨h4, h5⟩
  · exact hDe
  · simp at h4
    exact bef_closed hc e.on i (by omega) h5 hDe
def frD (nx n : Nat) (D : Nat → Bool) (s : Nat) : Prop := nx + n ≤ s ∨ ∃ m, m < n ∧ s = nx + m ∧ D m = false
theorem slots_const (v : Value) : slotsV (absV v) = [] := by
  unfold absV
  split <;> try rfl
  split <;> rfl
theorem evV_agree {T T' : Nat → V} {o : Oper} {ops : Array Oper} (h : ∀ t ∈ o.looksAt ops, T t = T' t) {x : Operand} (hx : x ∈ o.op.operands) : evV T x = evV T' x := by
  cases x with
  | tmp t => exact h t (List.mem_append_left _ (List.mem_filterMap.2 ⟨.tmp t, by simpa using hx, rfl⟩))
  | _ => rfl
theorem guard_agree {T T' : Nat → V} {o : Oper} {ops : Array Oper} (h : ∀ t ∈ o.looksAt ops, T t = T' t) {g : Nat} {w : Bool} (hg : o.guard = some (g, w)) : guardV ops T g = guardV ops T' g := by
  unfold guardV
  cases hd : (ops[g]?).bind (·.dst) with
  | none => rfl
  | some t =>
    simp only
    refine h t (List.mem_append_right _ ?_)
    rw [hg]
    simp only [hd]
    simp
theorem TD_un {ops : List Oper} {E : Nat → Option Eff} {T : Nat → V} {D : Nat → Bool} {t : Nat} : ∀ m, (∀ j, j < m → dstAt ops j ≠ some t) → TD ops E T D m t = T t
  | 0, _ => rfl
  | m + 1, h => by
    have ih := TD_un (E := E) (T := T) (D := D) m (fun j hj => h j (by omega))
    simp only [TD]
    have := h m (by omega)
    split
    · cases hd : dstAt ops m with
      | none => simpa [putT] using ih
      | some d =>
        rw [hd] at this
        have : t ≠ d := fun e => this (by rw [e])
        simp only [putT, tput, if_neg this]
        exact ih
    · exact ih
theorem TD_one {ops : List Oper} {E : Nat → Option Eff} {T : Nat → V} {t i : Nat} (hi : dstAt ops i = some t) : ∀ m, i < m → (∀ j, j < m → j ≠ i → dstAt ops j ≠ some t) → TD ops E T full m t = vOf (E i)
  | 0, h, _ => by omega
  | m + 1, h, hu => by
    simp only [TD]
    rw [if_pos (show full m = true from rfl)]
    by_cases e : m = i
    · subst e
      rw [hi]
      simp [putT, tput]
    · have ih := TD_one (E := E) (T := T) hi m (by omega) (fun j hj => hu j (by omega))
      have := hu m (by omega) e
      cases hd : dstAt ops m with
      | none => simpa [putT] using ih
      | some d =>
        rw [hd] at this
        have : t ≠ d := fun e => this (by rw [e])
        simp only [putT, tput, if_neg this]
        exact ih
theorem no_dst {ops : Array Oper} {t : Nat} (h : ops.all (fun o => o.dst != some t) = true) (j : Nat) : dstAt ops.toList j ≠ some t := by
  intro hd
  unfold dstAt at hd
  cases hq : ops.toList[j]? with
  | none => rw [hq] at hd; simp at hd
  | some o =>
    rw [hq] at hd
    have := Array.all_eq_true_iff_forall_mem.1 h o (Array.mem_of_getElem? (by simpa using hq))
    simp at hd
    rw [hd] at this
    simp at this
theorem root_key {rt : Bool} {nx : Nat} {ops : Array Oper} {T0 : Nat → V} {H0 : Store} {E : Nat → Option Eff}
    (hrec : ∀ j o, ops.toList[j]? = some o → StepOk P N nx rt ops j (TD ops.toList E T0 full j) (HD E H0 full j) o (E j))
    {i b : Nat} {p : Operand} (h : rootOf ops i p = some b) : (∀ j, TD ops.toList E T0 full j b = T0 b) ∧ keyAt (evV (TD ops.toList E T0 full i) p) = keyAt (T0 b) := by
  cases p with
  | tmp t =>
    simp only [rootOf] at h
    split at h
    · rename_i hall
      obtain rfl := Option.some.inj h
      have := fun j => TD_un (E := E) (T := T0) (D := full) j (fun k _ => no_dst hall k)
      exact ⟨this, by show keyAt (TD ops.toList E T0 full i t) = _; rw [this]⟩
    · obtain ⟨m, hm, hmm⟩ := List.exists_of_findSome?_eq_some h
      have hmi : m < i := by simpa using hm
      split at hmm
      · rename_i d _ b' _ _ _ _ hq
        split at hmm
        · rename_i hc
          obtain ⟨rfl, hb, hu⟩ := hc
          obtain rfl := Option.some.inj hmm
          have hbT := fun j => TD_un (E := E) (T := T0) (D := full) j (fun k _ => no_dst hb k)
          refine ⟨hbT, ?_⟩
          have hql := hq
          rw [← Array.getElem?_toList] at hql
          have hdm : dstAt ops.toList m = some d := by unfold dstAt; rw [hql]; rfl
          have h1 : TD ops.toList E T0 full i d = vOf (E m) := TD_one hdm i hmi (fun j hj hjm hd => by
            have hjs : j < ops.size := by
              unfold dstAt at hd
              rcases Nat.lt_or_ge j ops.size with h | h
              · exact h
              · rw [List.getElem?_eq_none (by simpa using h)] at hd; simp at hd
            have := List.all_eq_true.1 hu j (List.mem_range.2 hjs)
            rw [Bool.or_eq_true] at this
            rcases this with h | h
            · exact hjm (by simpa using h)
            · unfold dstAt at hd
              rw [Array.getElem?_toList] at hd
              rw [hd] at h
              simp at h)
          have hs := hrec m _ hql
          show keyAt (TD ops.toList E T0 full i d) = _
          rw [h1]
          cases hE : E m with
          | none =>
            rw [hE] at hs
            obtain ⟨j, w, hg, _⟩ := hs
            exact absurd hg (by simp)
          | some Em =>
            rw [hE] at hs
            have hx := hs.2.2.2.2
            simp only [Ext] at hx
            show keyAt Em.v = _
            rw [hx]
            show keyAt (TD ops.toList E T0 full m b') = _
            rw [hbT]
        · exact absurd hmm (by simp)
      · exact absurd hmm (by simp)
  | _ => simp [rootOf] at h
theorem draw_any {ops : Array Oper} {nx : Nat} {T0 : Nat → V} {H0 : Store} {E : Nat → Option Eff} {Q : Exit → Act → World → Prop} (hst : Static (rooted O) ops) (hds : ops.all (dstB N) = true)
    (hrec : ∀ j o, ops.toList[j]? = some o → StepOk P N nx (rooted O) ops j (TD ops.toList E T0 full j) (HD E H0 full j) o (E j)) (hH0 : ∀ k : Key, nx ≤ k.1 → H0 k = none)
    (hK : ∀ a w, Inv P N w0 F0 E0 (fun s => nx + ops.size ≤ s) (TD ops.toList E T0 full ops.size) (HD E H0 full ops.size) a w → Q .normal a w) :
    ∀ (fuel : Nat) (listed : Array Bool) (a : Act) (w : World), listed.size = ops.size → ClosedD ops (fun j => listed.getD j false) → cf (fun j => listed.getD j false) ops.size ≤ fuel →
      Inv P N w0 F0 E0 (frD nx ops.size fun j => listed.getD j false) (TD ops.toList E T0 (fun j => listed.getD j false) ops.size) (HD E H0 (fun j => listed.getD j false) ops.size) a w → wpAny P .any ops Q fuel listed a w := by
  have hslot : ∀ i, i ≤ ops.size → ∀ k e, HD E H0 full i k = some e → ∀ j, k.1 = nx + j → j < i := by
    intro i
    induction i with
    | zero => intro _ k e hk j hj; rw [HD, hH0 k (by omega)] at hk; exact absurd hk (by simp)
    | succ i ih =>
      intro hi k e hk j hj
      rw [HD, if_pos (show full i = true from rfl)] at hk
      unfold app at hk
      cases hu : uOf (E i) k with
      | none => rw [hu] at hk; have := ih (by omega) k e hk j hj; omega
      | some x =>
        have ho : ops.toList[i]? = some ops[i] := by simp [show i < ops.size by omega]
        have hs := hrec i _ ho
        cases hE : E i with
        | none => rw [hE] at hu; simp [uOf, noUp] at hu
        | some Ei =>
          rw [hE] at hs hu
          have hok := hs.1
          rcases hok.ups k (by simp only [uOf] at hu; rw [hu]; simp) with h1 | h1
          · omega
          · have h2 := (hok.rds k (hok.mds k h1)).1
            obtain ⟨e', he'⟩ := Option.isSome_iff_exists.1 h2
            have := ih (by omega) k e' he' j hj
            omega
  have hend : ∀ (listed : Array Bool) (a : Act) (w : World), (∀ j, j < ops.size → listed.getD j false = true) →
      Inv P N w0 F0 E0 (frD nx ops.size fun j => listed.getD j false) (TD ops.toList E T0 (fun j => listed.getD j false) ops.size) (HD E H0 (fun j => listed.getD j false) ops.size) a w → Q .normal a w := by
    intro listed a w hall hinv
    refine hK a w ?_
    have h1 : TD ops.toList E T0 (fun j => listed.getD j false) ops.size = TD ops.toList E T0 full ops.size := by
      funext t
      exact TD_agree _ fun j hj _ => hall j hj
    have h2 : HD E H0 (fun j => listed.getD j false) ops.size = HD E H0 full ops.size := by
      funext k
      exact HD_agree _ fun j hj _ => hall j hj
    rw [← h1, ← h2]
    exact hinv.fr_mono fun s hs => .inl hs
  have hready : ∀ (listed : Array Bool), listed.size = ops.size → Region.ready .any ops listed = [] → ∀ j, j < ops.size → listed.getD j false = true := by
    intro listed hsz hr j
    induction j using Nat.strongRecOn with
    | _ j ih =>
      intro hj
      refine Classical.byContradiction fun hne => ?_
      have hmem : j ∈ Region.ready .any ops listed := by
        rw [mem_ready]
        refine ⟨?_, ops[j], by simp [hj], fun e he hb => ?_⟩
        · have hjl : j < listed.size := by omega
          simp [Array.getD_eq_getD_getElem?, hjl] at hne ⊢
          exact hne
        · have := hst.early j ops[j] (by simp [hj]) e he hb
          exact ih e.on this (by omega)
      rw [hr] at hmem
      exact absurd hmem (by simp)
  intro fuel
  induction fuel with
  | zero =>
    intro listed a w hsz hcl hcnt hinv
    have hall := cf_zero ops.size (by omega : cf (fun j => listed.getD j false) ops.size = 0)
    refine ⟨?_, hend listed a w hall hinv⟩
    refine List.eq_nil_iff_forall_not_mem.2 fun j hj => ?_
    rw [mem_ready] at hj
    obtain ⟨h1, o, ho, _⟩ := hj
    have hjn := (Array.getElem?_eq_some_iff.1 ho).1
    have h2 := hall j hjn
    have hjl : j < listed.size := by omega
    simp [Array.getD_eq_getD_getElem?, hjl] at h1 h2
    rw [h1] at h2
    exact absurd h2 (by simp)
  | succ fuel ih =>
    intro listed a w hsz hcl hcnt hinv
    refine ⟨fun hr => hend listed a w (hready listed hsz hr) hinv, fun i hi => ?_⟩
    rw [mem_ready] at hi
    obtain ⟨hi1, o, ho, hpre⟩ := hi
    have hin := (Array.getElem?_eq_some_iff.1 ho).1
    have hil : i < listed.size := by omega
    generalize hDdef : (fun j => listed.getD j false) = D at *
    have hDi : D i = false := by
      rw [← hDdef]
      simp [Array.getD_eq_getD_getElem?, hil] at hi1 ⊢
      exact hi1
    have hpre' : ∀ e ∈ o.after, Region.binds .any e = true → D e.on = true := fun e he hb => by rw [← hDdef]; exact hpre e he hb
    have hol : ops.toList[i]? = some o := by simpa using ho
    have hs := hrec i o hol
    have hord : ∀ j, j ≠ i → j < ops.size → (if i < j then befB (masks ops.toList []) i j else befB (masks ops.toList []) j i) = true → D j = decide (j < i) := by
      intro j hji hj hb
      by_cases hlt : i < j
      · rw [if_pos hlt] at hb
        have : D j = false := by
          cases hDj : D j with
          | false => rfl
          | true => have := bef_closed hcl j i hj hb hDj; rw [hDi] at this; exact absurd this (by simp)
        rw [this]; simp; omega
      · rw [if_neg hlt] at hb
        rw [bef_ready hcl ho hpre' hb]
        simp; omega
    have hpair : ∀ j oj, j ≠ i → ops[j]? = some oj → D j = decide (j < i) ∨ ((∀ d, oj.dst = some d → d ∉ o.looksAt ops ∧ o.dst ≠ some d) ∧ (noisyQ (rooted O) ops oj.op = true → valB o.op = true ∨ (rooted O = true ∧ ∃ t p b, o.op = .load t p ∧ rootOf ops i p = some b ∧ b ∈ rootsOf ops j) ∨ ((∃ t, o.op = .alloc t) ∧ j < i))) := by
      intro j oj hji hoj
      have hj := (Array.getElem?_eq_some_iff.1 hoj).1
      have hp := hst.pair i j o oj (Ne.symm hji) ho hoj
      unfold pairOk at hp
      rw [Bool.or_eq_true] at hp
      by_cases hp0 : (if i < j then befB (masks ops.toList []) i j else befB (masks ops.toList []) j i) = true
      · exact .inl (hord j hji hj hp0)
      · right
        have hp := hp.resolve_left hp0
        rw [Bool.and_eq_true] at hp
        refine ⟨fun d hd => ?_, fun hn => ?_⟩
        · have := hp.1
          rw [hd] at this
          simpa using this
        · have := hp.2
          rw [hn] at this
          simp only [Bool.not_true, Bool.false_or, Bool.or_eq_true, Bool.and_eq_true] at this
          rcases this with (h | h) | h
          · exact .inl h
          rotate_left
          · exact .inr (.inr ⟨isAlloc_of h.1.2, by simpa using h.2⟩)
          refine .inr (.inl ⟨h.1, ?_⟩)
          obtain ⟨b, hb⟩ := Option.isSome_iff_exists.1 h.2
          have hb' := hb
          unfold loadRoot at hb
          split at hb
          · rename_i t p hop
            refine ⟨t, p, b, hop, hb, ?_⟩
            unfold rootsOf
            rw [List.mem_filterMap]
            refine ⟨i, List.mem_range.2 hin, ?_⟩
            rw [if_neg (Ne.symm hji), if_neg hp0, ho]
            exact hb'
          · exact absurd hb (by simp)
    have hpair' : ∀ j oj, j ≠ i → ops[j]? = some oj → D j = decide (j < i) ∨ (noisyQ (rooted O) ops o.op = true → valB oj.op = true ∨ (∃ t p, oj.op = .load t p) ∨ ((∃ t, oj.op = .alloc t) ∧ i < j)) := by
      intro j oj hji hoj
      have hj := (Array.getElem?_eq_some_iff.1 hoj).1
      have hp := hst.pair j i oj o hji hoj ho
      unfold pairOk at hp
      rw [Bool.or_eq_true] at hp
      rcases hp with hp | hp
      · left
        refine hord j hji hj ?_
        by_cases h1 : j < i
        · rw [if_pos h1] at hp; rw [if_neg (by omega)]; exact hp
        · rw [if_neg h1] at hp; rw [if_pos (by omega)]; exact hp
      · right
        intro hn
        rw [Bool.and_eq_true] at hp
        have := hp.2
        rw [hn] at this
        simp only [Bool.not_true, Bool.false_or, Bool.or_eq_true, Bool.and_eq_true] at this
        rcases this with (h | h) | h
        · exact .inl h
        rotate_left
        · exact .inr (.inr ⟨isAlloc_of h.1.2, by simpa using h.2⟩)
        refine .inr (.inl ?_)
        have h := h.2
        unfold loadRoot at h
        split at h
        · rename_i t p hop
          exact ⟨t, p, hop⟩
        · exact absurd h (by simp)
    have hdst : ∀ j t, dstAt ops.toList j = some t → ∃ oj, ops[j]? = some oj ∧ oj.dst = some t := by
      intro j t h
      unfold dstAt at h
      cases hq : ops.toList[j]? with
      | none => rw [hq] at h; simp at h
      | some oj => rw [hq] at h; exact ⟨oj, by simpa using hq, by simpa using h⟩
    have hdsti : dstAt ops.toList i = o.dst := by unfold dstAt; rw [hol]; rfl
    have hT : ∀ t ∈ o.looksAt ops, TD ops.toList E T0 D ops.size t = TD ops.toList E T0 full i t := by
      intro t ht
      rw [← TD_below (i := i) ops.size (by omega)]
      refine TD_agree _ fun j hj hdj => ?_
      by_cases hji : j = i
      · subst hji; rw [hDi]; simp [below]
      · obtain ⟨oj, hoj, hd⟩ := hdst j t hdj
        rcases hpair j oj hji hoj with h | h
        · exact h
        · exact absurd ht (h.1 t hd).1
    have hDa : (fun j => (listed.setIfInBounds i true).getD j false) = addD D i := by
      funext j
      simp only [addD]
      by_cases hji : j = i
      · subst hji; simp [Array.getD_eq_getD_getElem?, hil]
      · rw [if_neg hji, ← hDdef]
        exact getD_set_ne false (Ne.symm hji)
    have hTadd : TD ops.toList E T0 (addD D i) ops.size = putT o.dst (vOf (E i)) (TD ops.toList E T0 D ops.size) := by
      rw [TD_add hDi ops.size hin fun j hj hlt hDj t hdj => ?_, hdsti]
      rw [hdsti]
      obtain ⟨oj, hoj, hd⟩ := hdst j t hdj
      rcases hpair j oj (by omega) hoj with h | h
      · rw [hDj] at h; have : j < i := by simpa using h.symm
        omega
      · exact (h.1 t hd).2
    have hHadd : HD E H0 (addD D i) ops.size = app (uOf (E i)) (HD E H0 D ops.size) := by
      refine HD_add hDi ops.size hin fun j hj hlt hDj k hk => ?_
      refine Classical.byContradiction fun hki => ?_
      have hoj : ops[j]? = some ops[j] := by simp [hj]
      have hsj := hrec j ops[j] (by simp [hj])
      cases hEj : E j with
      | none => rw [hEj] at hk; exact hk rfl
      | some Ej =>
        cases hEi : E i with
        | none => rw [hEi] at hki; exact hki rfl
        | some Ei =>
          rw [hEj] at hsj hk
          rw [hEi] at hs hki
          rcases hpair j _ (by omega) hoj with h | h
          · rw [hDj] at h; have : j < i := by simpa using h.symm
            omega
          · rcases hpair' j _ (by omega) hoj with h' | h'
            · rw [hDj] at h'; have : j < i := by simpa using h'.symm
              omega
            · rcases hsj.1.ups k hk with h1 | h1
              · rcases hs.1.ups k hki with h2 | h2
                · omega
                · rcases hs.2.2.1 with h3 | h3
                  · rw [h3] at h2; exact absurd h2 (by simp)
                  · have : Ej.up = noUp := by
                      rcases h' h3.1 with h5 | ⟨t, p, h5⟩ | ⟨_, h5⟩
                      rotate_left 2
                      · obtain ⟨e', he'⟩ := Option.isSome_iff_exists.1 (hs.1.rds k (hs.1.mds k h2)).1
                        have := hslot i (by omega) k e' he' j h1
                        omega
                      · exact (hsj.2.1 h5).2.2
                      · have := hsj.2.2.2.2; unfold Ext at this; rw [h5] at this; exact this.2
                    simp only [uOf] at hk
                    rw [this] at hk
                    exact hk rfl
              · rcases hsj.2.2.1 with h3 | h3
                · rw [h3] at h1; exact absurd h1 (by simp)
                · have : Ei.up = noUp := by
                    rcases h.2 h3.1 with h5 | ⟨_, t, p, b, h5, _⟩ | ⟨_, h5⟩
                    rotate_left 2
                    · omega
                    · exact (hs.2.1 h5).2.2
                    · have := hs.2.2.2.2; unfold Ext at this; rw [h5] at this; exact this.2
                  simp only [uOf] at hki
                  rw [this] at hki
                  exact hki rfl
    have hcl' : ClosedD ops (addD D i) := by
      intro j oj hj hoj e he hb
      have hDe : D e.on = true := by
        by_cases hji : j = i
        · subst hji; rw [ho] at hoj; obtain rfl := Option.some.inj hoj; exact hpre' e he hb
        · simp only [addD, if_neg hji] at hj
          exact hcl j oj hj hoj e he hb
      simp only [addD]
      split
      · rfl
      · exact hDe
    have hcnt' : cf (addD D i) ops.size ≤ fuel := by have := cf_add hDi ops.size hin; omega
    have hnext : ∀ a' w', Inv P N w0 F0 E0 (frD nx ops.size (addD D i)) (putT o.dst (vOf (E i)) (TD ops.toList E T0 D ops.size)) (app (uOf (E i)) (HD E H0 D ops.size)) a' w' → wpAny P .any ops Q fuel (listed.setIfInBounds i true) a' w' := by
      intro a' w' h
      refine ih (listed.setIfInBounds i true) a' w' (by simp [hsz]) ?_ ?_ ?_
      · rw [hDa]; exact hcl'
      · rw [hDa]; exact hcnt'
      · rw [hDa, hTadd, hHadd]; exact h
    have hfr : ∀ s, frD nx ops.size (addD D i) s → frD nx ops.size D s ∧ s ≠ nx + i := by
      rintro s (h | ⟨m, hm, rfl, hDm⟩)
      · exact ⟨.inl h, by omega⟩
      · by_cases hmi : m = i
        · subst hmi; simp [addD] at hDm
        · simp only [addD, if_neg hmi] at hDm
          exact ⟨.inr ⟨m, hm, rfl, hDm⟩, by omega⟩
    have hdlt := dstB_lt (Array.all_eq_true_iff_forall_mem.1 hds o (Array.mem_of_getElem? ho))
    obtain ⟨M, F, hat⟩ := hinv
    unfold wpOp
    rw [ho]
    simp only
    cases hEi : E i with
    | none =>
      rw [hEi] at hs
      obtain ⟨g, want, hg, hgv⟩ := hs
      unfold noWant at hgv
      rw [← guard_agree hT hg] at hgv
      rw [if_neg (noWant.wanted hat.tmps hg hgv)]
      refine hnext _ _ ?_
      rw [hEi]
      simp only [vOf, uOf, app_noUp]
      exact ⟨M, F, (hat.skip hdlt).fr_mono fun s hs => (hfr s hs).1⟩
    | some Ei =>
      rw [hEi] at hs
      obtain ⟨hok, hval, hmd, hgd, hext⟩ := hs
      have hw : Region.wanted o (yielded ops a.tmps) = true := by
        cases hg : o.guard with
        | none => simp [Region.wanted, hg]
        | some p =>
          obtain ⟨g, want⟩ := p
          have hgv := hgd g want hg
          rw [← guard_agree hT hg] at hgv
          have hy := guard_yields hat.tmps hgv
          simp [Region.wanted, hg, hy]
      rw [if_pos hw]
      left
      have hrun := hok.run (w0 := w0) (F0 := F0) (E0 := E0) (fr := frD nx ops.size D) (T := TD ops.toList E T0 D ops.size) (Hc := HD E H0 D ops.size) (a := a) (w := w) (M := M) (F := F)
        (.inr ⟨i, hin, rfl, hDi⟩) hat (fun x hx => by rw [← evV_agree hT hx]; exact evV_den hat.tmps x) (fun k hk => ?_) hdlt Q
      · refine Oper.wp_mono (fun a' w' h => hnext a' w' ?_) hrun
        rw [hEi]
        exact h.fr_mono fun s hs => hfr s hs
      · -- the keys that it looks at are what they are in the text's order
        rw [← HD_below (i := i) ops.size (by omega)]
        refine HD_agree _ fun j hj huj => ?_
        by_cases hji : j = i
        · subst hji; rw [hDi]; simp [below]
        · have hoj : ops[j]? = some ops[j] := by simp [hj]
          have hsj := hrec j ops[j] (by simp [hj])
          cases hEj : E j with
          | none => rw [hEj] at huj; exact absurd rfl huj
          | some Ej =>
            rw [hEj] at hsj huj
            rcases hsj.1.ups k huj with h1 | h1
            · obtain ⟨hsome, hsl⟩ := hok.rds k hk
              obtain ⟨e0, he0⟩ := Option.isSome_iff_exists.1 hsome
              have hjlt := hslot i (by omega) k e0 he0 j h1
              rcases hsl with hsl | ⟨x, hx, hsl⟩
              · omega
              · have hden : DenV M F w (evV (TD ops.toList E T0 full i) x) (a.eval x) := by rw [← evV_agree hT hx]; exact evV_den hat.tmps x
                obtain ⟨k', hk', hMk⟩ := slotsV_den hden hsl
                have hDj : D j = true := by
                  cases hDj : D j with
                  | true => rfl
                  | false => exact absurd (hat.free k' (.inr ⟨j, hj, by rw [hk', h1], hDj⟩)) hMk
                rw [hDj]; simp [below]; omega
            · rcases hsj.2.2.1 with h3 | h3
              · rw [h3] at h1; exact absurd h1 (by simp)
              · rcases hpair j _ hji hoj with h | h
                · exact h
                · rcases h.2 h3.1 with h5 | ⟨hr, t, p, b, h5, h6, h7⟩ | ⟨⟨t, h5⟩, _⟩
                  rotate_left 2
                  · unfold Ext at hext
                    rw [h5] at hext
                    rw [hext.1] at hk
                    exact absurd hk (by simp)
                  · have := (hval h5).1
                    rw [this] at hk
                    exact absurd hk (by simp)
                  · unfold Ext at hext
                    rw [h5] at hext
                    obtain ⟨hb, hkey⟩ := root_key hrec h6
                    have hk2 := hext.1 ▸ hk
                    rw [hkey] at hk2
                    have := h3.2 hr b h7
                    rw [hb] at this
                    exact absurd h1 (this k hk2)
theorem W.draw {id : Nat} {ops : Array Oper} {Q : Exit → St → Prop} {S : St} (hm : P.follows .mixedOrders = true) (hds : ops.all (dstB N) = true) (hok : okDraw (rooted O) ops = true)
    (h : runO P N O true S.nx ops ops.toList 0 S.T S.H fun T H => Q .normal ⟨T, H, S.nx + ops.size⟩) : W P N (.region id ops true) Q S := fun w0 F0 E0 a w k => by
  refine wp_region_any hm ?_
  obtain ⟨E, h1, h2⟩ := runO_rec ops.toList 0 S.T S.H h
  rw [Array.length_toList] at h2
  obtain ⟨M, F, hat⟩ := k
  have hDr : (fun j => (Array.replicate ops.size false).getD j false) = fun _ => false := by
    funext j
    simp [Array.getD_eq_getD_getElem?, Array.getElem?_replicate]
    split <;> rfl
  have hTf : ∀ m, TD ops.toList E S.T (fun _ => false) m = S.T := by
    intro m; induction m with
    | zero => rfl
    | succ m ih => simp only [TD]; rw [if_neg (by simp)]; exact ih
  have hHf : ∀ m, HD E S.H (fun _ => false) m = S.H := by
    intro m; induction m with
    | zero => rfl
    | succ m ih => simp only [HD]; rw [if_neg (by simp)]; exact ih
  refine draw_any (O := O) (w0 := w0) (F0 := F0) (E0 := E0) (nx := S.nx) (T0 := S.T) (H0 := S.H) (E := E) (okDraw_static hok) hds (fun j o ho => by have := h1 j o ho; rwa [Nat.zero_add] at this) (fun k' hk' => ?_) (fun a w hi => ⟨_, h2, hi⟩) ops.size (Array.replicate ops.size false) a _ (by simp) ?_ ?_ ?_
  · cases hq : S.H k' with
    | none => rfl
    | some e =>
      obtain ⟨u, hu, _⟩ := hat.real.ent _ _ hq
      rw [hat.free k' hk'] at hu
      exact absurd hu (by simp)
  · rw [hDr]; intro j o hj; exact absurd hj (by simp)
  · rw [hDr]
    have : ∀ n, cf (fun _ => false) n = n := by intro n; induction n with
      | zero => rfl
      | succ n ih => simp only [cf, ih]; simp
    rw [this]; exact Nat.le_refl _
  · rw [hDr, hTf, hHf]
    refine ⟨M, F, ?_⟩
    have hat' : At P N w0 F0 E0 (frD S.nx ops.size fun _ => false) S.T S.H a w M F := hat.fr_mono (fun s hs => by
      rcases hs with hs | ⟨m, _, rfl, _⟩
      · show S.nx ≤ s; omega
      · show S.nx ≤ S.nx + m; omega)
    have hh : Holds F F w { w with drawn := w.drawn + 1 } := ⟨fun _ h => .inl h, fun _ _ _ => rfl⟩
    exact ⟨hat'.keep, ⟨fun k e hk => by
      obtain ⟨u, hu, hok, hF⟩ := hat'.real.ent k e hk
      exact ⟨u, hu, hok.move (fun _ _ h => h) hh (fun _ _ _ => rfl), hF⟩, hat'.real.inj⟩, fun j => (hat'.tmps j).move (fun _ _ h => h) hh, hat'.free, hat'.reach, hat'.defers, hat'.size, hat'.chg.then (Chg.drew (fun _ => False) w) (fun _ h => h.elim), hat'.lt0, hat'.base⟩
end
end Go.Proofs.YtjknjekemolndaaGreat.Abs
namespace Go.Proofs.YtjknjekemolndaaGreat.Abs
open Go Go.RowKit
set_option linter.unusedVariables false
set_option linter.unusedSimpArgs false
def WP (P : Program) (N : Nat) (O : List Nat) : Code → (Exit → St → Prop) → St → Prop
  | .skip, Q, S => Q .normal S
  | .seq x y, Q, S => WP P N O x (seqQ (fun S' => WP P N O y Q S') Q) S
  | .cond c x y, Q, S => ifV (evV S.T c) (WP P N O x Q S) (WP P N O y Q S)
  | .block id c, Q, S => WP P N O c (blockQ id Q) S
  | .exit id, Q, S => Q (.exit id) S
  | .ret, Q, S => Q .ret S
  | .region _ ops draw, Q, S => runO P N O draw S.nx ops ops.toList 0 S.T S.H fun T H => Q .normal ⟨T, H, S.nx + ops.size⟩
  | .loop c, Q, S => W P N (.loop c) Q S
  | _, _, _ => False
def codeOk (N : Nat) (r : Bool) : Code → Bool
  | .seq x y => codeOk N r x && codeOk N r y
  | .cond _ x y => codeOk N r x && codeOk N r y
  | .block _ c => codeOk N r c
  | .loop c => codeOk N r c
  | .region _ ops draw => ops.all (dstB N) && (!draw || okDraw r ops)
  | _ => true
theorem WP.sound {P : Program} {N : Nat} {O : List Nat} (hm : P.follows .mixedOrders = true) : ∀ {c : Code} {Q : Exit → St → Prop} {S : St}, codeOk N (rooted O) c = true → WP P N O c Q S → W P N c Q S
  | .skip, Q, S, hc, h => by unfold WP at h; exact W.skip h
  | .seq x y, Q, S, hc, h => by
    unfold WP at h
    unfold codeOk at hc
    rw [Bool.and_eq_true] at hc
    refine W.seq (W.mono (WP.sound hm hc.1 h) ?_)
    intro e S' hs
    cases e with
    | normal => exact WP.sound hm hc.2 hs
    | _ => exact hs
  | .cond c x y, Q, S, hc, h => by
    unfold WP at h
    unfold codeOk at hc
    rw [Bool.and_eq_true] at hc
    refine W.cond ?_
    unfold ifV at h ⊢
    split at h
    · exact ⟨fun e => WP.sound hm hc.1 (h.1 e), fun e => WP.sound hm hc.2 (h.2 e)⟩
    · exact h.elim
  | .block id c, Q, S, hc, h => by
    unfold WP at h
    unfold codeOk at hc
    exact W.block (WP.sound hm hc h)
  | .exit id, Q, S, hc, h => by unfold WP at h; exact W.exit h
  | .ret, Q, S, hc, h => by unfold WP at h; exact W.ret h
  | .region id ops false, Q, S, hc, h => by
    unfold WP at h
    unfold codeOk at hc
    simp only [Bool.not_false, Bool.true_or, Bool.and_true] at hc
    exact W.region hc h
  | .region id ops true, Q, S, hc, h => by
    unfold WP at h
    unfold codeOk at hc
    simp only [Bool.not_true, Bool.false_or, Bool.and_eq_true] at hc
    exact W.draw hm hc.1 hc.2 h
  | .loop c, Q, S, hc, h => by unfold WP at h; exact h
  | .rangeFunc .., Q, S, hc, h => by unfold WP at h; exact h.elim
  | .scope _, Q, S, hc, h => by unfold WP at h; exact h.elim
  | .label _, Q, S, hc, h => by unfold WP at h; exact h.elim
  | .goto _, Q, S, hc, h => by unfold WP at h; exact h.elim
  | .refuse _, Q, S, hc, h => by unfold WP at h; exact h.elim
theorem WP.loop {P : Program} {N : Nat} {Q : Exit → St → Prop} {S : St} (hm : P.follows .mixedOrders = true) {α : Type} (O : List Nat) (st : α → St) (ok : α → Prop) (m : α → Nat) (x0 : α) {c : Code} (hc : codeOk N (rooted O) c = true) (h0 : Le P N S (st x0)) (hx : ok x0)
    (round : ∀ x, ok x → WP P N O c (seqQ (fun S' => ∃ y, ok y ∧ m y < m x ∧ Le P N S' (st y)) Q) (st x)) : W P N (.loop c) Q S :=
  W.loop st ok m x0 h0 hx fun x hx => WP.sound hm hc (round x hx)
def resS (P : Program) (T : Nat → V) (H : Store) : List ResultVar → (List V → Prop) → Prop
  | [], K => K []
  | .tmp t :: r, K => resS P T H r fun vs => K (T t :: vs)
  | .cell a t :: r, K => match cellsAt H (T a), digest P t with
    | some (c, o), some I => partV I c o fun v => resS P T H r fun vs => K (v :: vs)
    | _, _ => False
def oneV : List V → V
  | [v] => v
  | vs => .tup vs
def RLe (P : Program) (H : Store) (v : V) (r : V) (Hr : Store) : Prop :=
  ∀ (M : Key → Option Value) (F F0 : Nat → Prop) (w w0 : World) (u : Value), (∀ b, F0 b → F b) → (∀ b, F0 b → b < w0.heap.size) → Real P M F w H → (∀ k e u b, H k = some e → e.live = true → M k = some u → blkOf u = some b → w0.heap.size ≤ b) → DenV M F w v u →
    ∃ M' F', (∀ b, F0 b → F' b) ∧ DenV M' F' w r u ∧ Real P M' F' w Hr ∧ (∀ k e u b, Hr k = some e → e.live = true → M' k = some u → blkOf u = some b → w0.heap.size ≤ b) ∧ (∀ k : Key, k.1 ≠ 0 → M' k = none)
def retQ (P : Program) (rs : List ResultVar) (r : V) (Hr : Store) : Exit → St → Prop
  | .normal, S => resS P S.T S.H rs fun vs => RLe P S.H (oneV vs) r Hr
  | .ret, S => resS P S.T S.H rs fun vs => RLe P S.H (oneV vs) r Hr
  | _, _ => False
def argT (vs : List V) (j : Nat) : V := vs.getD j .unk
def resF (tm : Array Value) : ResultVar → Sem Value := fun
  | .tmp t => pure (tm.getD t undef)
  | .cell a t => do loadVar t (← asAddr (tm.getD a undef))
theorem resS_den {P : Program} {N : Nat} {w0 : Base} {F0 E0 fr : Nat → Prop} {T : Nat → V} {H : Store} {a : Act} {w : World} {M : Key → Option Value} {F : Nat → Prop} (hat : At P N w0 F0 E0 fr T H a w M F) : ∀ {rs : List ResultVar} {K : List V → Prop}, resS P T H rs K →
    ∃ vs us, K vs ∧ DenVs M F w vs us ∧ (rs.mapM (resF a.tmps)).run P w = .ok us w
  | [], K, h => ⟨[], [], h, DenVs.nil, by simp⟩
  | .tmp t :: r, K, h => by
    unfold resS at h
    obtain ⟨vs, us, h1, h2, h3⟩ := resS_den hat h
    exact ⟨_, _, h1, DenVs.cons (hat.tmps t) h2, by rw [List.mapM_cons]; simp only [resF, Sem.run_bind, Sem.run_pure, Result.andThen_ok, h3]⟩
  | .cell c t :: r, K, h => by
    unfold resS at h
    split at h
    · rename_i cc o I hc hI
      obtain ⟨v, hk, hd⟩ := partL_den hI h
      obtain ⟨vs, us, h1, h2, h3⟩ := resS_den hat hk
      obtain ⟨b, q, us', hu, hr, hds⟩ := cellsAt_den hc hat.real (hat.tmps c)
      obtain ⟨u, hu2, hv⟩ := hd M F w us' b q hds hr
      exact ⟨_, _, h1, DenVs.cons hv h2, by rw [List.mapM_cons]; simp only [resF, Sem.run_bind, Sem.run_pure, Result.andThen_ok, hu, asAddr, hu2, h3]⟩
    · exact h.elim
theorem oneV_den {M : Key → Option Value} {F : Nat → Prop} {w : World} {vs : List V} {us : List Value} (h : DenVs M F w vs us) : DenV M F w (oneV vs) (if h : us.toArray.size = 1 then us.toArray[0] else .tuple us.toArray) := by
  have hl := h.length
  unfold oneV
  split
  · unfold DenVs at h
    obtain ⟨u, r, rfl, hu, hr⟩ := h
    unfold DenVs at hr
    subst hr
    simpa using hu
  · rename_i hne
    have : ¬ us.toArray.size = 1 := by
      intro h1
      simp at h1
      rw [hl] at h1
      match vs, h1 with
      | [v], _ => exact hne v rfl
    rw [dif_neg this]
    unfold DenV
    exact ⟨us.toArray, rfl, h⟩
theorem Cn.of {P : Program} {f : Nat} {fn : Func} {c : Code} {vs : List V} {r : V} {Hr : Store} (O : List Nat) (hm : P.follows .mixedOrders = true) (hf : P.funcs[f]? = some fn) (hb : fn.body = some c) (he : ∀ args w, (callFunc f args).run P w = .ok (.enter f args) w) (hc : codeOk fn.ntmps (rooted O) c = true)
    (hn : Nat.ble vs.length fn.ntmps = true) (hW : WP P fn.ntmps O c (retQ P fn.results.toList r Hr) ⟨argT vs, hemp, 0⟩) : Cn P f vs r Hr := by
  refine ⟨he, fun w F args hF hden => ?_⟩
  have hn := Nat.le_of_ble_eq_true hn
  have hal : args.size = vs.length := by rw [← hden.length]; simp
  refine calls_of_wp hf hb ?_
  have hinv : St.Fits P fn.ntmps (Base.of w) F (fun _ => False) ⟨argT vs, hemp, 0⟩ { tmps := args ++ Array.replicate (fn.ntmps - args.size) undef, defers := [] } w := by
    refine ⟨fun _ => none, F, fun b h _ => h, ⟨fun k e h => by simp [hemp] at h, fun k k' e e' u u' b h => by simp [hemp] at h⟩, fun j => ?_, fun _ _ => rfl, fun k e u b h => by simp [hemp] at h, rfl, by simp; omega, Chg.refl _ w, hF, fun k u h => absurd h (by simp [Base.of])⟩
    simp only [argT, List.getD]
    cases hj : vs[j]? with
    | none => simp; unfold DenV; trivial
    | some v =>
      obtain ⟨u, hu, hd⟩ := hden.get hj
      have hjl : j < args.size := by rw [hal]; exact (List.getElem?_eq_some_iff.1 hj).1
      have hu' : args[j]? = some u := by simpa using hu
      have : (args ++ Array.replicate (fn.ntmps - args.size) undef)[j]? = some u := by rw [Array.getElem?_append_left hjl]; exact hu'
      simp only [Array.getD_eq_getD_getElem?, this, Option.getD_some]
      exact hd
  refine wp_mono (WP.sound hm hc hW (Base.of w) F (fun _ => False) _ w hinv) ?_
  have fin : ∀ (S' : St) (a' : Act) (w' : World), resS P S'.T S'.H fn.results.toList (fun vs => RLe P S'.H (oneV vs) r Hr) → S'.Fits P fn.ntmps (Base.of w) F (fun _ => False) a' w' →
      a'.defers = [] ∧ ∃ v, (results fn a'.tmps).run P w' = .ok v w' ∧ ∃ v_1 M' F', Ending.returned v = .returned v_1 ∧ (∀ b, F b → F' b) ∧ DenV M' F' w' r v_1 ∧ Real P M' F' w' Hr ∧ Chg (fun _ => False) w w' ∧
        (∀ k e u b, Hr k = some e → e.live = true → M' k = some u → blkOf u = some b → w.heap.size ≤ b) ∧ (∀ k : Key, k.1 ≠ 0 → M' k = none) := by
    rintro S' a' w' hq ⟨M, F1, hat⟩
    obtain ⟨rvs, us, hR, hd, hrun⟩ := resS_den hat hq
    obtain ⟨M', F', h1, h2, h3, h4, h5⟩ := hR M F1 F w' w _ (fun b h => hat.keep b h (fun h => h)) hF hat.real (fun k e u b h1 h2 h3 h4 => (hat.reach k e u b h1 h2 h3 h4).elim (fun h => h.elim) id) (oneV_den hd)
    refine ⟨hat.defers, _, ?_, _, M', F', rfl, h1, h2, h3, hat.chg, h4, h5⟩
    unfold results
    have : fn.results.mapM (resF a'.tmps) =
        List.toArray <$> fn.results.toList.mapM (resF a'.tmps) := by
      rw [Array.mapM_eq_mapM_toList]
    rw [Sem.run_bind]
    have h6 := this
    refine Eq.trans (congrArg (fun x => (Sem.run P x w').andThen _) h6) ?_
    rw [Sem.run_map, hrun]
    rfl
  rintro e a' w' ⟨S', hq, hfit⟩
  cases e with
  | normal => exact fin S' a' w' hq hfit
  | ret => exact fin S' a' w' hq hfit
  | exit id => exact hq.elim
  | goto l => exact hq.elim
  | panic ch => exact hq.elim
  | outgrown => exact hq.elim
end Go.Proofs.YtjknjekemolndaaGreat.Abs
namespace Go.Proofs.YtjknjekemolndaaGreat.Abs
open Go Go.RowKit
set_option linter.unusedVariables false
set_option linter.unusedSimpArgs false
def tl : List (Nat × V) → Nat → V
  | [], _ => .unk
  | (d, v) :: r, j => if j = d then v else tl r j
def hl : List (Key × Ent) → Store
  | [], _ => none
  | (k, e) :: r, j => if j = k then some e else hl r j
def invK : List (Key × Key) → Key → Key
  | [], k => k
  | (k', k) :: r, j => if j = k' then k else invK r j
def asDz (H : Store) (v : V) (x : D) : Prop := match v with
  | .d y => y = x
  | .nil => x = .sl 0 []
  | .ref k n => match H k with
    | some (.fz m c) => m = n ∧ x = .sl n c
    | _ => False
  | _ => False
mutual
def VLe (H : Store) (inv : Key → Key) (nx : Nat) (v : V) : V → Prop
  | .unk => True
  | .d x => asDz H v x
  | .nil => v = .nil
  | .ref k n => v = .ref (inv k) n ∧ k.1 < nx
  | .sub k z o n => v = .sub (inv k) z o n ∧ k.1 < nx
  | .ptr k o => v = .ptr (inv k) o ∧ k.1 < nx
  | .adr s o => match v with
    | .adr s' o' => o' = o ∧ VLe H inv nx s' s
    | _ => False
  | .agg c => match v with
    | .agg c' => VLes H inv nx c' c
    | _ => False
  | .tup c => match v with
    | .tup c' => VLes H inv nx c' c
    | _ => False
  | .fn f c => match v with
    | .fn f' c' => f' = f ∧ VLes H inv nx c' c
    | _ => False
def VLes (H : Store) (inv : Key → Key) (nx : Nat) (vs : List V) : List V → Prop
  | [] => vs = []
  | x :: r => match vs with
    | [] => False
    | v :: vs' => VLe H inv nx v x ∧ VLes H inv nx vs' r
end
def ELe (H : Store) (inv : Key → Key) (nx : Nat) (e e' : Ent) : Prop := match e', e with
  | .box c', .box c => VLes H inv nx c c'
  | .row t' n' c', .row t n c => t = t' ∧ n = n' ∧ VLes H inv nx c c'
  | .fz n' c', .fz n c => n = n' ∧ c = c'
  | .fz n' c', .row _ n c => n = n' ∧ asDs c = some c'
  | _, _ => False
theorem VLes_refl_d (H : Store) (inv : Key → Key) (nx : Nat) (cs : List D) : VLes H inv nx (cs.map V.d) (cs.map V.d) := by
  induction cs with
  | nil => simp [VLes]
  | cons x r ih => simp only [List.map_cons, VLes]; exact ⟨by simp [VLe, asDz], ih⟩
theorem VLes_d (H : Store) (inv : Key → Key) (nx : Nat) (cs cs' : List D) : VLes H inv nx (cs.map V.d) (cs'.map V.d) ↔ cs = cs' := by
  constructor
  · intro h
    induction cs' generalizing cs with
    | nil => simp [VLes] at h; exact h
    | cons x r ih =>
      cases cs with
      | nil => simp [VLes] at h
      | cons y s =>
        simp only [List.map_cons, VLes, VLe, asDz] at h
        rw [h.1, ih s h.2]
  · rintro rfl; exact VLes_refl_d ..
theorem ELe_live {H : Store} {inv : Key → Key} {nx : Nat} {e e' : Ent} (h : ELe H inv nx e e') (hl : e'.live = true) : e.live = true := by
  cases e' with
  | fz n c => simp [Ent.live] at hl
  | box c => cases e with
    | fz n c => simp [ELe] at h
    | _ => rfl
  | row t n c => cases e with
    | fz n c => simp [ELe] at h
    | _ => rfl
section
variable {P : Program} {N : Nat} {w0 : Base} {F0 E0 fr : Nat → Prop} {T : Nat → V} {H : Store} {a : Act} {w : World} {M : Key → Option Value} {F : Nat → Prop}
theorem asDz_den (hR : Real P M F w H) {v : V} {x : D} {u : Value} (h : asDz H v x) (hd : DenV M F w v u) : DenD F w x u := by
  unfold asDz at h
  split at h
  · subst h; unfold DenV at hd; exact hd
  · subst h; exact asD_den (v := .nil) rfl hd
  · rename_i k n
    split at h
    · rename_i m c hk
      obtain ⟨rfl, rfl⟩ := h
      unfold DenV at hd
      obtain ⟨u', hu', hok, _⟩ := hR.ent _ _ hk
      rw [hd.1] at hu'
      obtain rfl := Option.some.inj hu'
      exact hok
    · exact h.elim
  · exact h.elim
mutual
theorem VLe_den {inv : Key → Key} {nx : Nat} {M' : Key → Option Value} {F' : Nat → Prop} (hR : Real P M F w H) (hM : ∀ k : Key, k.1 < nx → M' k = M (inv k)) (hF : ∀ b, F' b → F b) : ∀ {v' v : V} {u : Value}, VLe H inv nx v v' → DenV M F w v u → DenV M' F' w v' u
  | .unk, v, u, h, hd => by unfold DenV; trivial
  | .d x, v, u, h, hd => by
    unfold VLe at h
    unfold DenV
    exact (asDz_den hR h hd).move ⟨fun b hb => .inl (hF b hb), fun _ _ _ => rfl⟩
  | .nil, v, u, h, hd => by
    unfold VLe at h
    subst h
    unfold DenV at hd ⊢
    exact hd
  | .ref k n, v, u, h, hd => by
    unfold VLe at h
    obtain ⟨rfl, hk⟩ := h
    unfold DenV at hd ⊢
    exact ⟨by rw [hM k hk]; exact hd.1, hd.2⟩
  | .sub k z o n, v, u, h, hd => by
    unfold VLe at h
    obtain ⟨rfl, hk⟩ := h
    unfold DenV at hd ⊢
    obtain ⟨A0, n0, cap0, A, cap, h1, h2⟩ := hd
    exact ⟨A0, n0, cap0, A, cap, by rw [hM k hk]; exact h1, h2⟩
  | .ptr k o, v, u, h, hd => by
    unfold VLe at h
    obtain ⟨rfl, hk⟩ := h
    unfold DenV at hd ⊢
    obtain ⟨b, hb, hv⟩ := hd
    exact ⟨b, by rw [hM k hk]; exact hb, hv⟩
  | .adr s o, v, u, h, hd => by
    unfold VLe at h
    cases v <;> simp only at h
    obtain ⟨rfl, h⟩ := h
    unfold DenV at hd ⊢
    obtain ⟨b, o', n, cap, hv, hs⟩ := hd
    exact ⟨b, o', n, cap, hv, VLe_den hR hM hF h hs⟩
  | .agg c, v, u, h, hd => by
    unfold VLe at h
    cases v <;> simp only at h
    unfold DenV at hd ⊢
    obtain ⟨cs, hv, hs⟩ := hd
    exact ⟨cs, hv, VLes_den hR hM hF h hs⟩
  | .tup c, v, u, h, hd => by
    unfold VLe at h
    cases v <;> simp only at h
    unfold DenV at hd ⊢
    obtain ⟨cs, hv, hs⟩ := hd
    exact ⟨cs, hv, VLes_den hR hM hF h hs⟩
  | .fn f c, v, u, h, hd => by
    unfold VLe at h
    cases v <;> simp only at h
    obtain ⟨rfl, h⟩ := h
    unfold DenV at hd ⊢
    obtain ⟨cs, hv, hs⟩ := hd
    exact ⟨cs, hv, VLes_den hR hM hF h hs⟩
theorem VLes_den {inv : Key → Key} {nx : Nat} {M' : Key → Option Value} {F' : Nat → Prop} (hR : Real P M F w H) (hM : ∀ k : Key, k.1 < nx → M' k = M (inv k)) (hF : ∀ b, F' b → F b) : ∀ {c' c : List V} {us : List Value}, VLes H inv nx c c' → DenVs M F w c us → DenVs M' F' w c' us
  | [], c, us, h, hd => by unfold VLes at h; subst h; unfold DenVs at hd ⊢; exact hd
  | x :: r, c, us, h, hd => by
    unfold VLes at h
    cases c with
    | nil => exact h.elim
    | cons v vs =>
      simp only at h
      unfold DenVs at hd
      obtain ⟨u, us', rfl, hu, hr⟩ := hd
      exact DenVs.cons (VLe_den hR hM hF h.1 hu) (VLes_den hR hM hF h.2 hr)
end
theorem Real.renamed {H' : Store} {inv : Key → Key} {nx : Nat} (hR : Real P M F w H) (hH : ∀ k e', H' k = some e' → k.1 < nx ∧ ∃ e, H (inv k) = some e ∧ ELe H inv nx e e') (hi : ∀ k k' e e', H' k = some e → H' k' = some e' → inv k = inv k' → k = k')
    {M' : Key → Option Value} {F' : Nat → Prop} (hM : ∀ k : Key, k.1 < nx → M' k = M (inv k)) (hF : ∀ b, F' b ↔ F b ∧ ¬ ∃ k n c t n' c' u, H' k = some (.fz n c) ∧ H (inv k) = some (.row t n' c') ∧ M (inv k) = some u ∧ blkOf u = some b) : Real P M' F' w H' := by
  have hF1 : ∀ b, F' b → F b := fun b hb => ((hF b).1 hb).1
  constructor
  · intro k e' hk
    obtain ⟨hlt, e, he, hle⟩ := hH k e' hk
    obtain ⟨u, hu, hok, hFu⟩ := hR.ent _ _ he
    refine ⟨u, by rw [hM k hlt]; exact hu, ?_, ?_⟩
    · cases e' with
      | box c' =>
        cases e <;> simp only [ELe] at hle
        obtain ⟨b, cs, t, rfl, hb, hd⟩ := hok
        exact ⟨b, cs, t, rfl, hb, VLes_den hR hM hF1 hle hd⟩
      | row t' n' c' =>
        cases e <;> simp only [ELe] at hle
        obtain ⟨rfl, rfl, hle⟩ := hle
        rcases hok with ⟨xs, i, hi', hown, hd⟩ | ⟨A, h1, h2, rfl⟩
        · exact .inl ⟨xs, i, hi', hown, VLes_den hR hM hF1 hle hd⟩
        · refine .inr ⟨A, h1, h2, ?_⟩
          cases c' with
          | nil => rfl
          | cons x r => simp [VLes] at hle
      | fz n' c' =>
        cases e with
        | box c => simp [ELe] at hle
        | fz n c =>
          simp only [ELe] at hle
          obtain ⟨rfl, rfl⟩ := hle
          exact DenD.move ⟨fun b hb => .inl (hF1 b hb), fun _ _ _ => rfl⟩ hok
        | row t n c =>
          simp only [ELe] at hle
          obtain ⟨rfl, hc⟩ := hle
          have hnot : ∀ b, blkOf u = some b → ¬ F' b := fun b hb hf => ((hF b).1 hf).2 ⟨k, n, c', t, n, c, u, hk, he, hu, hb⟩
          show DenD F' w (.sl n c') u
          unfold DenD
          rcases hok with ⟨xs, i, hi', hown, hd⟩ | ⟨A, rfl, rfl, rfl⟩
          · rcases hown.2 with ⟨rfl, rfl⟩ | ⟨g, cap, cur, rfl, _, hg, hnc, _, hsz, ht⟩
            · have h1 : xs.length = 0 := by rw [hown.1]; simp
              have h2 : c = [] := List.eq_nil_of_length_eq_zero (by rw [← hd.length, h1])
              subst h2
              simp [asDs] at hc
              subst hc
              exact ⟨_, _, rfl, Nat.le_refl _, .inl rfl, .inl rfl⟩
            · refine ⟨_, _, rfl, hnc, .inr ⟨_, _, rfl⟩, ?_⟩
              by_cases hc0 : c' = []
              · exact .inl hc0
              · right
                have hd' : DenVs M F' w (c'.map V.d) xs := (asDs_den hc hd).move (fun _ _ h => h) ⟨fun b hb => .inl (hF1 b hb), fun _ _ _ => rfl⟩
                refine ⟨g, 0, rfl, hnot g ?_, DenDs.of_values (M := M) (fun j v hv => ?_) hd'⟩
                · simp only [blkOf]
                  rw [if_neg]
                  intro h0
                  have h1 : xs.length = 0 := by rw [hown.1, show n = 0 by omega]; simp
                  have h2 := hd'.length
                  rw [h1] at h2
                  exact hc0 (List.eq_nil_of_length_eq_zero (by simpa using h2.symm))
                · rw [← ht] at hv
                  have hj := (List.getElem?_eq_some_iff.1 hv).1
                  rw [List.getElem?_take_of_lt (by simp at hj; omega)] at hv
                  exact rangeAt_row hg j v hv
          · simp [asDs] at hc
            subst hc
            exact ⟨_, _, rfl, Nat.le_refl _, .inl rfl, .inl rfl⟩
    · intro hl b hb
      have hel : e.live = true := ELe_live hle hl
      refine (hF b).2 ⟨hFu hel b hb, ?_⟩
      rintro ⟨k2, n, c, t, n', c', u2, hk2, hrow, hu2, hb2⟩
      have hinv := hR.inj _ _ _ _ _ _ b he hrow hel rfl hu hu2 hb hb2
      have := hi k k2 _ _ hk hk2 hinv
      subst this
      rw [hk] at hk2
      obtain rfl := Option.some.inj hk2
      simp [Ent.live] at hl
  · intro k k' e e' u u' b hk hk' hl hl' hu hu' hb hb'
    obtain ⟨hlt, e1, he1, hle1⟩ := hH k e hk
    obtain ⟨hlt', e2, he2, hle2⟩ := hH k' e' hk'
    rw [hM k hlt] at hu
    rw [hM k' hlt'] at hu'
    have hl1 : e1.live = true := ELe_live hle1 hl
    have hl2 : e2.live = true := ELe_live hle2 hl'
    exact hi k k' _ _ hk hk' (hR.inj _ _ _ _ _ _ b he1 he2 hl1 hl2 hu hu' hb hb')
theorem Le.mk {S S' : St} (inv : Key → Key) (hnx : S.nx = 0 ∨ 0 < S'.nx) (hv : ∀ k : Key, k.1 = 0 → 1 ≤ k.2 → S.nx ≠ 0 → inv k = k) (hT : ∀ j, VLe S.H inv S'.nx (S.T j) (S'.T j)) (hH : ∀ k e', S'.H k = some e' → k.1 < S'.nx ∧ ∃ e, S.H (inv k) = some e ∧ ELe S.H inv S'.nx e e')
    (hi : ∀ k k' e e', S'.H k = some e → S'.H k' = some e' → inv k = inv k' → k = k') : Le P N S S' := fun w0 F0 E0 a w h => by
  obtain ⟨M, F, hat⟩ := h
  let M' : Key → Option Value := fun k => if k.1 < S'.nx then M (inv k) else none
  let F' : Nat → Prop := fun b => F b ∧ ¬ ∃ k n c t n' c' u, S'.H k = some (.fz n c) ∧ S.H (inv k) = some (.row t n' c') ∧ M (inv k) = some u ∧ blkOf u = some b
  have hM : ∀ k : Key, k.1 < S'.nx → M' k = M (inv k) := fun k hk => by show (if k.1 < S'.nx then M (inv k) else none) = _; rw [if_pos hk]
  refine ⟨M', F', fun b h0 h1 => ⟨hat.keep b h0 h1, ?_⟩, hat.real.renamed hH hi hM (fun b => Iff.rfl), fun j => VLe_den hat.real hM (fun b hb => hb.1) (hT j) (hat.tmps j), fun k hk => ?_, fun k e u b hk hl hu hb => ?_, hat.defers, hat.size, hat.chg, hat.lt0, fun k u hb => ?_⟩
  · rintro ⟨k, n, c, t, n', c', u, hk, hrow, hu, hb⟩
    rcases hat.reach _ _ u b hrow rfl hu hb with h2 | h2
    · exact h1 h2
    · have := hat.lt0 b h0
      omega
  · show (if k.1 < S'.nx then M (inv k) else none) = none
    rw [if_neg (by omega)]
  · obtain ⟨hlt, e1, he1, hle1⟩ := hH k e hk
    rw [hM k hlt] at hu
    have hl1 : e1.live = true := ELe_live hle1 hl
    exact hat.reach _ _ u b he1 hl1 hu hb
  · obtain ⟨r1, r2⟩ := w0.res k u hb
    have hm := hat.base k u hb
    by_cases h0 : S.nx = 0
    · rw [hat.free k (by show S.nx ≤ k.1; omega)] at hm; exact absurd hm (by simp)
    · rw [hM k (by omega), hv k r1 r2 h0]; exact hm
theorem tl_cond {Hs : Store} {inv : Key → Key} {nx : Nat} {T : Nat → V} {L : List (Nat × V)} (h : ∀ p ∈ L, VLe Hs inv nx (T p.1) p.2) (j : Nat) : VLe Hs inv nx (T j) (tl L j) := by
  induction L with
  | nil => simp [tl, VLe]
  | cons p r ih =>
    obtain ⟨d, v⟩ := p
    simp only [tl]
    split
    · rename_i hj; subst hj; exact h (j, v) List.mem_cons_self
    · exact ih fun q hq => h q (List.mem_cons_of_mem _ hq)
theorem hl_mem {L : List (Key × Ent)} {k : Key} {e : Ent} (h : hl L k = some e) : (k, e) ∈ L := by
  induction L with
  | nil => simp [hl] at h
  | cons p r ih =>
    obtain ⟨k0, e0⟩ := p
    simp only [hl] at h
    split at h
    · rename_i hk; subst hk; obtain rfl := Option.some.inj h; exact List.mem_cons_self
    · exact List.mem_cons_of_mem _ (ih h)
def allP {α : Type} (p : α → Prop) : List α → Prop
  | [] => True
  | x :: r => p x ∧ allP p r
theorem allP_mem {α : Type} {p : α → Prop} : ∀ {l : List α}, allP p l → ∀ x ∈ l, p x
  | [], _, x, hx => absurd hx (by simp)
  | y :: r, h, x, hx => by
    rcases List.mem_cons.1 hx with rfl | hx
    · exact h.1
    · exact allP_mem h.2 x hx
def entIs (o : Option Ent) (p : Ent → Prop) : Prop := match o with
  | some e => p e
  | none => False
theorem invK_res : ∀ {iv : List (Key × Key)}, iv.all (fun p => p.1.1 != 0 || p.1.2 == 0) = true → ∀ k : Key, k.1 = 0 → 1 ≤ k.2 → invK iv k = k
  | [], _, k, _, _ => rfl
  | p :: r, h, k, h1, h2 => by
    rw [List.all_cons, Bool.and_eq_true] at h
    simp only [invK]
    rw [if_neg]
    · exact invK_res h.2 k h1 h2
    · rintro rfl
      simp [h1] at h
      omega
theorem Le.told {T : Nat → V} {H : Store} {nx : Nat} {L : List (Nat × V)} {K : List (Key × Ent)} {nx' : Nat} (iv : List (Key × Key)) (hT : allP (fun p : Nat × V => VLe H (invK iv) nx' (T p.1) p.2) L)
    (hH : allP (fun p : Key × Ent => p.1.1 < nx' ∧ entIs (H (invK iv p.1)) fun e => ELe H (invK iv) nx' e p.2) K) (hi : (K.map fun p => invK iv p.1).Nodup) (hnx : nx = 0 ∨ 0 < nx' := by first | exact .inl rfl | (right; simp)) (hv : iv.all (fun p => p.1.1 != 0 || p.1.2 == 0) = true := by rfl) : Le P N ⟨T, H, nx⟩ ⟨tl L, hl K, nx'⟩ := by
  refine Le.mk (invK iv) hnx (fun k h1 h2 _ => invK_res hv k h1 h2) (tl_cond (allP_mem hT)) (fun k e' hk => ?_) (fun k k' e e' hk hk' he => ?_)
  · obtain ⟨h1, h2⟩ := allP_mem hH _ (hl_mem hk)
    simp only [entIs] at h2
    cases hq : H (invK iv k) with
    | none => rw [hq] at h2; exact h2.elim
    | some e => rw [hq] at h2; exact ⟨h1, e, hq, h2⟩
  · have m1 := hl_mem hk
    have m2 := hl_mem hk'
    have : ∀ (K : List (Key × Ent)), (K.map fun p => invK iv p.1).Nodup → ∀ p ∈ K, ∀ q ∈ K, invK iv p.1 = invK iv q.1 → p = q := by
      intro K
      induction K with
      | nil => intro _ p hp; exact absurd hp (by simp)
      | cons x r ih =>
        intro hn p hp q hq h
        simp only [List.map_cons, List.nodup_cons, List.mem_map, not_exists, not_and] at hn
        rcases List.mem_cons.1 hp with hp1 | hp1 <;> rcases List.mem_cons.1 hq with hq1 | hq1
        · rw [hp1, hq1]
        · rw [hp1] at h; exact absurd h.symm (hn.1 q hq1)
        · rw [hq1] at h; exact absurd h (hn.1 p hp1)
        · exact ih hn.2 p hp1 q hq1 h
    have := this K hi _ m1 _ m2 he
    injection this
theorem Le.nil {T : Nat → V} {H : Store} {nx : Nat} (d : Nat) (t : TypeId) (hd : T d = .nil) : Le P N ⟨T, H, nx⟩ ⟨tput d (.ref (nx, 0) 0) T, setH (nx, 0) (some (.row t 0 [])) H, nx + 1⟩ := fun w0 F0 E0 a w h => by
  obtain ⟨M, F, hat⟩ := h
  have h1 : DenV M F w (T d) (a.tmps.getD d undef) := hat.tmps d
  rw [hd] at h1
  unfold DenV at h1
  obtain ⟨A, hA⟩ := h1
  have hbk : ∀ b, blkOf (.slice A 0 0) ≠ some b := by intro b; cases A <;> simp [blkOf]
  let M' : Key → Option Value := fun k => if k = (nx, 0) then some (.slice A 0 0) else M k
  have hMn : M (nx, 0) = none := hat.free (nx, 0) (Nat.le_refl nx)
  have hM : ∀ k x, M k = some x → M' k = some x := by
    intro k x hk
    show (if k = (nx, 0) then some (Value.slice A 0 0) else M k) = some x
    rw [if_neg (fun e => by subst e; rw [hMn] at hk; exact absurd hk (by simp))]
    exact hk
  have hMk : M' (nx, 0) = some (.slice A 0 0) := by show (if (nx, 0) = (nx, 0) then _ else _) = _; rw [if_pos rfl]
  refine ⟨M', F, hat.keep, hat.real.set hM (Holds.refl F w) (fun b h => h) (fun j e hj h => h) (fun _ _ _ _ _ _ _ _ _ => rfl) hMk (.inr ⟨A, rfl, rfl, rfl⟩) (fun _ b hb => absurd hb (hbk b)) (fun _ _ _ b _ _ _ _ _ _ hb => absurd hb (hbk b)), fun j => ?_, fun k hk => ?_, fun k e u b hk hl hu hb => ?_, hat.defers, hat.size, hat.chg, hat.lt0, fun k u hb => hM k u (hat.base k u hb)⟩
  · simp only [tput]
    split
    · rename_i hj
      subst hj
      unfold DenV
      exact ⟨by rw [hMk, hA], A, 0, hA, .inl rfl, Nat.le_refl _⟩
    · exact (hat.tmps j).move hM (Holds.refl F w)
  · show (if k = (nx, 0) then _ else M k) = none
    have hk' : nx + 1 ≤ k.1 := hk
    rw [if_neg (fun e => by rw [e] at hk'; simp at hk'; omega)]
    exact hat.free k (by show nx ≤ k.1; omega)
  · simp only [setH] at hk
    by_cases hkn : k = (nx, 0)
    · subst hkn
      rw [hMk] at hu
      obtain rfl := Option.some.inj hu
      exact absurd hb (hbk b)
    · rw [if_neg hkn] at hk
      have : M' k = M k := by show (if k = (nx, 0) then _ else M k) = _; rw [if_neg hkn]
      rw [this] at hu
      exact hat.reach k e u b hk hl hu hb
def lendT (H : Store) (n : Nat) : V → Option V
  | .tup c => match lendVs true H n c with
    | some (vs, _) => some (.tup vs)
    | none => none
  | v => match lendV true H n v with
    | some (x, _) => some x
    | none => none
theorem RLe.pure {v r : V} (n : Nat) (h : lendT H n v = some r) : RLe P H v r hemp := by
  intro M F F0 w w0 u hF hlt hR hnew hd
  have hL : ∀ ks : List Key, true = true → ∀ b, F0 b → ¬ Lent H M ks b := by
    rintro ks _ b h0 ⟨k, _, e, u, h1, h2, h3, h4⟩
    have := hnew k e u b h1 h2 h3 h4
    have := hlt b h0
    omega
  refine ⟨fun _ => none, F0, fun b h => h, ?_, ⟨fun k e h => by simp [hemp] at h, fun k k' e e' u u' b h => by simp [hemp] at h⟩, fun k e u b h => by simp [hemp] at h, fun _ _ => rfl⟩
  have hv : ∀ {v : V}, (match lendV true H n v with | some (x, _) => some x | none => none) = some r → DenV M F w v u → DenV (fun _ => none) F0 w r u := by
    intro v h hd
    cases hq : lendV true H n v with
    | none => rw [hq] at h; simp at h
    | some p =>
      obtain ⟨x, ks⟩ := p
      rw [hq] at h
      obtain rfl := Option.some.inj h
      exact lendV_den hR hF hq (hL ks) hd
  cases v with
  | tup c =>
    simp only [lendT] at h
    cases hq : lendVs true H n c with
    | none => rw [hq] at h; simp at h
    | some p =>
      obtain ⟨x, ks⟩ := p
      rw [hq] at h
      obtain rfl := Option.some.inj h
      unfold DenV at hd ⊢
      obtain ⟨cs, hu, hcs⟩ := hd
      exact ⟨cs, hu, lendVs_den hR hF hq (hL ks) hcs⟩
  | unk => exact hv (v := .unk) h hd
  | d x => exact hv (v := .d x) h hd
  | nil => exact hv (v := .nil) h hd
  | ref k m => exact hv (v := .ref k m) h hd
  | ptr k m => exact hv (v := .ptr k m) h hd
  | adr k m => exact hv (v := .adr k m) h hd
  | agg k => exact hv (v := .agg k) h hd
  | fn k c => exact hv (v := .fn k c) h hd
  | sub k z o m => exact hv (v := .sub k z o m) h hd
end
end Go.Proofs.YtjknjekemolndaaGreat.Abs
namespace Go.Proofs.YtjknjekemolndaaGreat.Abs
open Go Go.RowKit
set_option linter.unusedVariables false
set_option linter.unusedSimpArgs false
structure Hold.{u} {α : Sort u} (a : α) : Type where mk ::
def blkP (p : Prop) (h : Hold p) : Prop := p
def blkE (K : Eff → Prop) (h : Hold K) (E : Eff) : Prop := K E
theorem blkE_at (K : Eff → Prop) (h : Hold K) (E : Eff) : blkE K h E = K E := rfl
def runOH (P : Program) (N : Nat) (O : List Nat) (draw : Bool) (nx : Nat) (ops : Array Oper) (r : List Oper) (i : Nat) (T : Nat → V) (K : (Nat → V) → Store → Prop) (h : Hold (ops, r, T, K)) (H : Store) : Prop := runO P N O draw nx ops r i T H K
def ifP (c p q : Prop) : Prop := (c → p) ∧ (¬ c → q)
def ifb (b : Bool) (p q : Prop) : Prop := (b = true → p) ∧ (b = false → q)
theorem ifP.mk {c p q : Prop} (h : c → p) (h' : ¬ c → q) : ifP c p q := ⟨h, h'⟩
theorem ifb.mk {b : Bool} {p q : Prop} (h : b = true → p) (h' : b = false → q) : ifb b p q := ⟨h, h'⟩
def ifPQ (c p q : Prop) : Prop := ifP c p q
def ifbQ (b : Bool) (p q : Prop) : Prop := ifb b p q
theorem ifP_pos {c p q : Prop} {hp : Hold p} (h : c) : ifP c (blkP p hp) q = p := propext ⟨fun k => k.1 h, fun k => ⟨fun _ => k, fun n => absurd h n⟩⟩
theorem ifP_neg {c p q : Prop} {hq : Hold q} (h : ¬ c) : ifP c p (blkP q hq) = q := propext ⟨fun k => k.2 h, fun k => ⟨fun n => absurd n h, fun _ => k⟩⟩
theorem ifP_open (c p q : Prop) (hp : Hold p) (hq : Hold q) : ifP c (blkP p hp) (blkP q hq) = ifPQ c p q := rfl
theorem ifb_pos {b : Bool} {p q : Prop} {hp : Hold p} (h : b = true) : ifb b (blkP p hp) q = p := by subst h; exact propext ⟨fun k => k.1 rfl, fun k => ⟨fun _ => k, fun n => absurd n (by simp [-Int.not_le, -Int.not_lt])⟩⟩
theorem ifb_neg {b : Bool} {p q : Prop} {hq : Hold q} (h : b = false) : ifb b p (blkP q hq) = q := by subst h; exact propext ⟨fun k => k.2 rfl, fun k => ⟨fun n => absurd n (by simp [-Int.not_le, -Int.not_lt]), fun _ => k⟩⟩
theorem ifb_open (b : Bool) (p q : Prop) (hp : Hold p) (hq : Hold q) : ifb b (blkP p hp) (blkP q hq) = ifbQ b p q := rfl
theorem ifb_not (b : Bool) (p q : Prop) : ifb (!b) p q = ifb b q p := by cases b <;> simp [-Int.not_le, -Int.not_lt, ifb]
theorem ifb_decide (c : Prop) [Decidable c] (p q : Prop) : ifb (decide c) p q = ifP c p q := by simp [-Int.not_le, -Int.not_lt, ifb, ifP]
@[congr] theorem ifPQ_congr {c c' p p' q q' : Prop} (h : c = c') (h1 : c' → p = p') (h2 : ¬ c' → q = q') : ifPQ c p q = ifPQ c' p' q' := by
  subst h
  unfold ifPQ ifP
  exact propext ⟨fun k => ⟨fun n => h1 n ▸ k.1 n, fun n => h2 n ▸ k.2 n⟩, fun k => ⟨fun n => h1 n ▸ k.1 n, fun n => h2 n ▸ k.2 n⟩⟩
@[congr] theorem ifbQ_congr {b b' : Bool} {p p' q q' : Prop} (h : b = b') (h1 : b' = true → p = p') (h2 : b' = false → q = q') : ifbQ b p q = ifbQ b' p' q' := by
  subst h
  unfold ifbQ ifb
  exact propext ⟨fun k => ⟨fun n => h1 n ▸ k.1 n, fun n => h2 n ▸ k.2 n⟩, fun k => ⟨fun n => h1 n ▸ k.1 n, fun n => h2 n ▸ k.2 n⟩⟩
attribute [simp ↓] ifP_pos ifP_neg ifb_pos ifb_neg ifb_not ifb_decide
attribute [simp ↓ low] ifP_open ifb_open
attribute [simp] blkE_at
def stepK (P : Program) (N : Nat) (O : List Nat) (draw : Bool) (nx : Nat) (ops : Array Oper) (r : List Oper) (i : Nat) (dst : Option Nat) (op : Op) (T : Nat → V) (H : Store) (K : (Nat → V) → Store → Prop) (E : Eff) : Prop :=
  mdOk draw (rooted O) ops i op T E.md ∧ runO P N O draw nx ops r (i + 1) (putT dst E.v T) (app E.up H) K
def kV (K : Eff → Prop) (v : V) : Prop := K ⟨v, [], [], noUp⟩
def kL (K : Eff → Prop) (p : V) (v : V) : Prop := K ⟨v, keyAt p, [], noUp⟩
def endK (Q : Exit → St → Prop) (nx : Nat) (T : Nat → V) (H : Store) : Prop := Q .normal ⟨T, H, nx⟩
def kR (K : List V → Prop) (v : V) (vs : List V) : Prop := K (v :: vs)
def kRs (P : Program) (T : Nat → V) (H : Store) (r : List ResultVar) (K : List V → Prop) (v : V) : Prop := resS P T H r (kR K v)
def kEnd (P : Program) (H : Store) (r : V) (Hr : Store) (vs : List V) : Prop := RLe P H (oneV vs) r Hr
section
variable {P : Program} {N : Nat} {O : List Nat} {nx s i : Nat} {H : Store} {T : Nat → V} {K : Eff → Prop} {KV : V → Prop} {KT : (Nat → V) → Store → Prop} {Q : Exit → St → Prop} {S : St} {ρ : Operand → V}
variable {dst : Option Nat} {ty : TypeId} {pos : String} {af : Array Edge} {gd : Option (Nat × Bool)} {draw : Bool} {ops : Array Oper} {r : List Oper} {op : Op}
theorem wp_skip : WP P N O .skip Q S = Q .normal S := rfl
theorem wp_seq (x y : Code) : WP P N O (.seq x y) Q S = WP P N O x (seqQ (WP P N O y Q) Q) S := rfl
theorem wp_cond (c : Operand) (x y : Code) : WP P N O (.cond c x y) Q S = ifV (evV S.T c) (blkP (WP P N O x Q S) ⟨⟩) (blkP (WP P N O y Q S) ⟨⟩) := rfl
theorem wp_block (id : Nat) (c : Code) : WP P N O (.block id c) Q S = WP P N O c (blockQ id Q) S := rfl
theorem wp_exit (id : Nat) : WP P N O (.exit id) Q S = Q (.exit id) S := rfl
theorem wp_ret : WP P N O .ret Q S = Q .ret S := rfl
theorem wp_loop (c : Code) : WP P N O (.loop c) Q S = blkP (W P N (.loop c) Q S) ⟨⟩ := rfl
theorem wp_region (id : Nat) (l : List Oper) (T : Nat → V) (H : Store) (nx : Nat) : WP P N O (.region id l.toArray draw) Q ⟨T, H, nx⟩ = runO P N O draw nx l.toArray l 0 T H (endK Q (nx + l.length)) := by
  show runO P N O draw nx l.toArray l.toArray.toList 0 T H _ = _
  simp only [List.size_toArray]
  rfl
theorem endK_at (nx : Nat) : endK Q nx T H = Q .normal ⟨T, H, nx⟩ := rfl
theorem seqQ_normal (n : St → Prop) : seqQ n Q .normal S = n S := rfl
theorem seqQ_exit (n : St → Prop) (id : Nat) : seqQ n Q (.exit id) S = Q (.exit id) S := rfl
theorem seqQ_ret (n : St → Prop) : seqQ n Q .ret S = Q .ret S := rfl
theorem blockQ_normal (id : Nat) : blockQ id Q .normal S = Q .normal S := rfl
theorem blockQ_ret (id : Nat) : blockQ id Q .ret S = Q .ret S := rfl
theorem blockQ_exit (id j : Nat) : blockQ id Q (.exit j) S = if j = id then Q .normal S else Q (.exit j) S := rfl
theorem ifV_bool (b : Bool) (p q : Prop) : ifV (.d (.bool b)) p q = ifb b p q := rfl
theorem ifB_undef (w : Bool) (p q : Prop) (h : Hold q) : ifB (.tup []) w p (blkP q h) = q := rfl
theorem ifB_true (b : Bool) (p q : Prop) : ifB (.d (.bool b)) true p q = ifb b p q := rfl
theorem ifB_false (b : Bool) (p q : Prop) : ifB (.d (.bool b)) false p q = ifb b q p := by
  simp only [ifB, ifb, Bool.not_false]
  exact propext ⟨fun h => ⟨h.2, h.1⟩, fun h => ⟨h.2, h.1⟩⟩
theorem runO_nil : runO P N O draw nx ops [] i T H KT = KT T H := rfl
theorem runO_cons : runO P N O draw nx ops (⟨dst, op, ty, pos, af, none⟩ :: r) i T H KT = opS P N O nx (nx + i) H ⟨dst, op, ty, pos, af, none⟩ (evV T) (blkE (stepK P N O draw nx ops r i dst op T H KT) ⟨⟩) := rfl
theorem runO_guard (j : Nat) (w : Bool) : runO P N O draw nx ops (⟨dst, op, ty, pos, af, some (j, w)⟩ :: r) i T H KT = ifB (guardV ops T j) w (blkP (opS P N O nx (nx + i) H ⟨dst, op, ty, pos, af, some (j, w)⟩ (evV T) (blkE (stepK P N O draw nx ops r i dst op T H KT) ⟨⟩)) ⟨⟩) (blkP (runO P N O draw nx ops r (i + 1) (putT dst (.tup []) T) H KT) ⟨⟩) := rfl
theorem stepK_text (d : Nat) (v : V) (rd md : List Key) (up : Key → Option (Option Ent)) : stepK P N O false nx ops r i (some d) op T H KT ⟨v, rd, md, up⟩ = runOH P N O false nx ops r (i + 1) (tput d v T) KT ⟨⟩ (app up H) := by simp [-Int.not_le, -Int.not_lt, stepK, mdOk, runOH, putT]
theorem stepK_text0 (v : V) (rd md : List Key) (up : Key → Option (Option Ent)) : stepK P N O false nx ops r i none op T H KT ⟨v, rd, md, up⟩ = runOH P N O false nx ops r (i + 1) T KT ⟨⟩ (app up H) := by simp [-Int.not_le, -Int.not_lt, stepK, mdOk, runOH, putT]
theorem stepK_draw (d : Nat) (v : V) (rd : List Key) (up : Key → Option (Option Ent)) : stepK P N O true nx ops r i (some d) op T H KT ⟨v, rd, [], up⟩ = runOH P N O true nx ops r (i + 1) (tput d v T) KT ⟨⟩ (app up H) := by simp [-Int.not_le, -Int.not_lt, stepK, mdOk, runOH, putT]
theorem stepK_draw0 (v : V) (rd : List Key) (up : Key → Option (Option Ent)) : stepK P N O true nx ops r i none op T H KT ⟨v, rd, [], up⟩ = runOH P N O true nx ops r (i + 1) T KT ⟨⟩ (app up H) := by simp [-Int.not_le, -Int.not_lt, stepK, mdOk, runOH, putT]
def noisyM (O : List Nat) (ops : Array Oper) (i : Nat) (op : Op) (T : Nat → V) (md : List Key) : Prop := match O with
  | 0 :: _ => Quiet ops i op T md
  | _ => noisyS ops op = true
theorem mdOk_noisy (k : Key) (md : List Key) : mdOk true (rooted O) ops i op T (k :: md) = noisyM O ops i op T (k :: md) := by
  cases O with
  | nil => rfl
  | cons x l => cases x <;> rfl
theorem noisyM_nil (md : List Key) : noisyM [] ops i op T md = (noisyS ops op = true) := rfl
theorem noisyM_cons (x : Nat) (l : List Nat) (md : List Key) (h : x ≠ 0) : noisyM (x :: l) ops i op T md = (noisyS ops op = true) := by
  cases x with
  | zero => exact absurd rfl h
  | succ n => rfl
theorem noisyM_0 (l : List Nat) (md : List Key) : noisyM (0 :: l) ops i op T md = Quiet ops i op T md := rfl
theorem stepK_draw_md (d : Nat) (v : V) (rd : List Key) (k : Key) (md : List Key) (up : Key → Option (Option Ent)) : stepK P N O true nx ops r i (some d) op T H KT ⟨v, rd, k :: md, up⟩ = (noisyM O ops i op T (k :: md) ∧ runOH P N O true nx ops r (i + 1) (tput d v T) KT ⟨⟩ (app up H)) := by
  rw [← mdOk_noisy]; rfl
theorem stepK_draw_md0 (v : V) (rd : List Key) (k : Key) (md : List Key) (up : Key → Option (Option Ent)) : stepK P N O true nx ops r i none op T H KT ⟨v, rd, k :: md, up⟩ = (noisyM O ops i op T (k :: md) ∧ runOH P N O true nx ops r (i + 1) T KT ⟨⟩ (app up H)) := by
  rw [← mdOk_noisy]; rfl
theorem Quiet.of {ops : Array Oper} {i : Nat} {op : Op} {T : Nat → V} {md : List Key} (rs : List Nat) (h : (noisyQ true ops op && (rootsOf ops i == rs)) = true) (hr : allP (fun b => offB (T b) md) rs) : Quiet ops i op T md := by
  rw [Bool.and_eq_true] at h
  refine ⟨h.1, fun b hb => ?_⟩
  rw [eq_of_beq h.2] at hb
  exact allP_mem hr b hb
theorem runOH_at (h : Hold (ops, r, T, KT)) : runOH P N O draw nx ops r i T KT h H = runO P N O draw nx ops r i T H KT := rfl
theorem noisy_store (t : TypeId) (p x : Operand) : noisyS ops (.store t p x) = true := rfl
theorem putT_some (d : Nat) (v : V) : putT (some d) v T = tput d v T := rfl
theorem putT_none (v : V) : putT none v T = T := rfl
theorem evV_tmp (t : Nat) : evV T (.tmp t) = T t := rfl
theorem evV_const (v : Value) : evV T (.const v) = absV v := rfl
theorem evV_func (f : Nat) : evV T (.func f) = .fn f [] := rfl
theorem absV_bool (b : Bool) : absV (.bool b) = .d (.bool b) := rfl
theorem absV_int (k : IntKind) (n : Int) : absV (.int k n) = .d (.int k n) := rfl
theorem absV_str (s : ByteArray) : absV (.string s) = .d (.str s) := rfl
theorem absV_nil : absV (.slice none 0 0) = .nil := rfl
theorem op_move (x : Operand) : opS P N O nx s H ⟨dst, .move x, ty, pos, af, gd⟩ ρ K = K ⟨ρ x, [], [], noUp⟩ := rfl
theorem op_assign (x : Operand) : opS P N O nx s H ⟨dst, .assign x, ty, pos, af, gd⟩ ρ K = K ⟨ρ x, [], [], noUp⟩ := rfl
def pickS (c a b : V) (KV : V → Prop) : Prop := match c with
  | .d (.bool t) => KV (if t = true then a else b)
  | _ => False
theorem op_pick (c a b : Operand) : opS P N O nx s H ⟨dst, .pick c a b, ty, pos, af, gd⟩ ρ K = pickS (ρ c) (ρ a) (ρ b) (kV K) := rfl
theorem pickS_bool (t : Bool) (a b : V) : pickS (.d (.bool t)) a b KV = KV (if t = true then a else b) := rfl
theorem ite_bools (p : Prop) [Decidable p] (a b : Bool) : (if p then V.d (.bool a) else V.d (.bool b)) = V.d (.bool (if p then a else b)) := by split <;> rfl
theorem kV_at (v : V) : kV K v = K ⟨v, [], [], noUp⟩ := rfl
theorem kL_at (p v : V) : kL K p v = K ⟨v, keyAt p, [], noUp⟩ := rfl
theorem op_bin (b : BinOp) (t t' : TypeId) (x y : Operand) : opS P N O nx s H ⟨dst, .binOp b t x y t', ty, pos, af, gd⟩ ρ K = binS P b t (ρ x) (ρ y) (kV K) := rfl
theorem bin_add (t : TypeId) (k : IntKind) (a b : Int) : binS P .add t (.d (.int k a)) (.d (.int k b)) KV = KV (.d (.int k (k.wrap (a + b)))) := by simp [-Int.not_le, -Int.not_lt, binS, bitB]
theorem bin_sub (t : TypeId) (k : IntKind) (a b : Int) : binS P .sub t (.d (.int k a)) (.d (.int k b)) KV = KV (.d (.int k (k.wrap (a - b)))) := by simp [-Int.not_le, -Int.not_lt, binS, bitB]
theorem bin_mul (t : TypeId) (k : IntKind) (a b : Int) : binS P .mul t (.d (.int k a)) (.d (.int k b)) KV = KV (.d (.int k (k.wrap (a * b)))) := by simp [-Int.not_le, -Int.not_lt, binS, bitB]
theorem bin_quo (t : TypeId) (k : IntKind) (a b : Int) : binS P .quo t (.d (.int k a)) (.d (.int k b)) KV = (b ≠ 0 ∧ KV (.d (.int k (k.wrap (a.tdiv b))))) := by simp [-Int.not_le, -Int.not_lt, binS, bitB]
theorem bin_rem (t : TypeId) (k : IntKind) (a b : Int) : binS P .rem t (.d (.int k a)) (.d (.int k b)) KV = (b ≠ 0 ∧ KV (.d (.int k (a.tmod b)))) := by simp [-Int.not_le, -Int.not_lt, binS, bitB]
theorem bin_eql (t : TypeId) (k : IntKind) (a b : Int) : binS P .eql t (.d (.int k a)) (.d (.int k b)) KV = KV (.d (.bool (decide (a = b)))) := by simp [-Int.not_le, -Int.not_lt, binS, bitB]; rfl
theorem bin_neq (t : TypeId) (k : IntKind) (a b : Int) : binS P .neq t (.d (.int k a)) (.d (.int k b)) KV = KV (.d (.bool (!decide (a = b)))) := by simp [-Int.not_le, -Int.not_lt, binS, bitB]; rfl
theorem bin_lss (t : TypeId) (k : IntKind) (a b : Int) : binS P .lss t (.d (.int k a)) (.d (.int k b)) KV = KV (.d (.bool (decide (a < b)))) := by simp [-Int.not_le, -Int.not_lt, binS, bitB]
theorem bin_leq (t : TypeId) (k : IntKind) (a b : Int) : binS P .leq t (.d (.int k a)) (.d (.int k b)) KV = KV (.d (.bool (decide (a ≤ b)))) := by simp [-Int.not_le, -Int.not_lt, binS, bitB]
theorem bin_gtr (t : TypeId) (k : IntKind) (a b : Int) : binS P .gtr t (.d (.int k a)) (.d (.int k b)) KV = KV (.d (.bool (decide (b < a)))) := by simp [-Int.not_le, -Int.not_lt, binS, bitB]
theorem bin_geq (t : TypeId) (k : IntKind) (a b : Int) : binS P .geq t (.d (.int k a)) (.d (.int k b)) KV = KV (.d (.bool (decide (b ≤ a)))) := by simp [-Int.not_le, -Int.not_lt, binS, bitB]
def boolS (P : Program) (t : TypeId) (v : V) (KV : V → Prop) : Prop := match digest P t with
  | some ⟨.bool, _, _, _⟩ => KV v
  | _ => False
theorem bin_and (t : TypeId) (k : IntKind) (a b : Int) : binS P .and t (.d (.int k a)) (.d (.int k b)) KV = KV (.d (.int k (andI k a b))) := by simp [-Int.not_le, -Int.not_lt, binS, bitB, bitS]
theorem bin_xor (t : TypeId) (k : IntKind) (a b : Int) : binS P .xor t (.d (.int k a)) (.d (.int k b)) KV = KV (.d (.int k (xorI k a b))) := by simp [-Int.not_le, -Int.not_lt, binS, bitB, bitS]
theorem bin_shr (t : TypeId) (k k' : IntKind) (a b : Int) : binS P .shr t (.d (.int k a)) (.d (.int k' b)) KV = (0 ≤ b ∧ KV (.d (.int k (shrI k a b)))) := by simp [-Int.not_le, -Int.not_lt, binS, bitB, bitS]
theorem bin_eqlb (t : TypeId) (a b : Bool) : binS P .eql t (.d (.bool a)) (.d (.bool b)) KV = boolS P t (.d (.bool (a == b))) KV := rfl
theorem bin_neqb (t : TypeId) (a b : Bool) : binS P .neq t (.d (.bool a)) (.d (.bool b)) KV = boolS P t (.d (.bool (a != b))) KV := rfl
theorem bin_eql2 (t : TypeId) (k : IntKind) (a b a' b' : Int) : binS P .eql t (.agg [.d (.int k a), .d (.int k b)]) (.agg [.d (.int k a'), .d (.int k b')]) KV = (eq2B P t k = true ∧ KV (.d (.bool (a == a' && b == b')))) := by simp [-Int.not_le, -Int.not_lt, binS, eq2S]
theorem bin_eqlS (t : TypeId) (a b : Bool) (c c' : List V) : binS P .eql t (.agg (.d (.bool a) :: c)) (.agg (.d (.bool b) :: c')) KV = (V.d (.bool a) :: c = V.d (.bool b) :: c' ∧ (P.eqGuardType P.depth t = false ∧ eqV P 4 t (.agg (.d (.bool a) :: c)) = true) ∧ KV (.d (.bool true))) := rfl
theorem op_un (u : UnOp) (t : TypeId) (x : Operand) : opS P N O nx s H ⟨dst, .unOp u t x, ty, pos, af, gd⟩ ρ K = unS u (ρ x) (kV K) := rfl
theorem un_not (b : Bool) : unS .not (.d (.bool b)) KV = KV (.d (.bool (!b))) := rfl
theorem un_neg (k : IntKind) (n : Int) : unS .neg (.d (.int k n)) KV = KV (.d (.int k (k.wrap (0 - n)))) := rfl
def fieldS (P : Program) (t : TypeId) (x : V) (f : Nat) (KV : V → Prop) : Prop := match digest P t with
  | some ⟨.struct fs, _, _, _⟩ => match fs[f]? with
    | some (o, ft) => match digest P ft with
      | some I => I.size ≠ 0 ∧ match x with
        | .ptr k p => KV (.ptr k (p + o))
        | .adr s p => KV (.adr s (p + o))
        | _ => False
      | none => False
    | none => False
  | _ => False
theorem op_fieldAddr (t : TypeId) (x : Operand) (f : Nat) : opS P N O nx s H ⟨dst, .fieldAddr t x f, ty, pos, af, gd⟩ ρ K = fieldS P t (ρ x) f (kV K) := rfl
theorem fieldS_ptr (t : TypeId) (k : Key) (p f : Nat) : fieldS P t (.ptr k p) f KV = match digest P t with
  | some ⟨.struct fs, _, _, _⟩ => match fs[f]? with
    | some (o, ft) => match digest P ft with
      | some I => I.size ≠ 0 ∧ KV (.ptr k (p + o))
      | none => False
    | none => False
  | _ => False := rfl
theorem fieldS_adr (t : TypeId) (v : V) (p f : Nat) : fieldS P t (.adr v p) f KV = match digest P t with
  | some ⟨.struct fs, _, _, _⟩ => match fs[f]? with
    | some (o, ft) => match digest P ft with
      | some I => I.size ≠ 0 ∧ KV (.adr v (p + o))
      | none => False
    | none => False
  | _ => False := rfl
def fieldV (P : Program) (t : TypeId) (x : V) (f : Nat) (KV : V → Prop) : Prop := match digest P t with
  | some ⟨.struct fs, _, _, _⟩ => match fs[f]? with
    | some (o, ft) => match digest P ft, x with
      | some I, .agg c => partV I c o KV
      | _, _ => False
    | none => False
  | _ => False
theorem op_field (t : TypeId) (x : Operand) (f : Nat) : opS P N O nx s H ⟨dst, .field t x f, ty, pos, af, gd⟩ ρ K = fieldV P t (ρ x) f (kV K) := rfl
theorem fieldV_agg (t : TypeId) (c : List V) (f : Nat) : fieldV P t (.agg c) f KV = match digest P t with
  | some ⟨.struct fs, _, _, _⟩ => match fs[f]? with
    | some (o, ft) => match digest P ft with
      | some I => partV I c o KV
      | none => False
    | none => False
  | _ => False := by
  unfold fieldV
  cases digest P t with
  | none => rfl
  | some I =>
    obtain ⟨k, a, b, c'⟩ := I
    cases k <;> try rfl
    rename_i fs
    simp only
    cases fs[f]? with
    | none => rfl
    | some p =>
      obtain ⟨o, ft⟩ := p
      simp only
      cases digest P ft <;> rfl
def indexS (P : Program) (t : TypeId) (x i : V) (KV : V → Prop) : Prop := match digest P t with
  | some ⟨.slice e, _, _, _⟩ => match digest P e, i, lenV x with
    | some I, .d (.int _ n), some m => (0 ≤ n ∧ n < m) ∧ KV (.adr x (n.toNat * I.size))
    | _, _, _ => False
  | _ => False
theorem op_indexAddr (t : TypeId) (x j : Operand) : opS P N O nx s H ⟨dst, .indexAddr t x j, ty, pos, af, gd⟩ ρ K = indexS P t (ρ x) (ρ j) (kV K) := rfl
theorem indexS_sl (t : TypeId) (m : Nat) (c : List D) (k : IntKind) (n : Int) : indexS P t (.d (.sl m c)) (.d (.int k n)) KV = match digest P t with
  | some ⟨.slice e, _, _, _⟩ => match digest P e with
    | some I => (0 ≤ n ∧ n < m) ∧ KV (.adr (.d (.sl m c)) (n.toNat * I.size))
    | none => False
  | _ => False := by
  unfold indexS
  cases digest P t with
  | none => rfl
  | some I =>
    obtain ⟨k, a, b, c'⟩ := I
    cases k <;> try rfl
    rename_i e
    simp only
    cases digest P e <;> rfl
theorem indexS_ref (t : TypeId) (m : Nat) (q : Key) (k : IntKind) (n : Int) : indexS P t (.ref q m) (.d (.int k n)) KV = match digest P t with
  | some ⟨.slice e, _, _, _⟩ => match digest P e with
    | some I => (0 ≤ n ∧ n < m) ∧ KV (.adr (.ref q m) (n.toNat * I.size))
    | none => False
  | _ => False := by
  unfold indexS
  cases digest P t with
  | none => rfl
  | some I =>
    obtain ⟨k, a, b, c'⟩ := I
    cases k <;> try rfl
    rename_i e
    simp only
    cases digest P e <;> rfl
def sliceT (P : Program) (t : TypeId) (x : V) (lo hi : Option V) (KV : V → Prop) : Prop := match digest P t with
  | some ⟨.slice e, _, _, _⟩ => match digest P e with
    | some I => sliceS I.size x lo hi KV
    | none => False
  | _ => False
theorem op_slice (t : TypeId) (x : Operand) (lo hi : Option Operand) : opS P N O nx s H ⟨dst, .slice t x lo hi none, ty, pos, af, gd⟩ ρ K = sliceT P t (ρ x) (lo.map ρ) (hi.map ρ) (kV K) := rfl
def extractS (x : V) (i : Nat) (KV : V → Prop) : Prop := match x with
  | .tup c => match c[i]? with
    | some v => KV v
    | none => False
  | _ => False
theorem op_extract (x : Operand) (j : Nat) : opS P N O nx s H ⟨dst, .extract x j, ty, pos, af, gd⟩ ρ K = extractS (ρ x) j (kV K) := rfl
theorem extractS_0 (v : V) (c : List V) : extractS (.tup (v :: c)) 0 KV = KV v := rfl
theorem extractS_1 (v w : V) (c : List V) : extractS (.tup (v :: w :: c)) 1 KV = KV w := rfl
def nilS (x : V) (KV : V → Prop) : Prop := match x with
  | .ptr k o => KV (.ptr k o)
  | _ => False
theorem op_nilCheck (x : Operand) : opS P N O nx s H ⟨dst, .nilCheck x, ty, pos, af, gd⟩ ρ K = nilS (ρ x) (kV K) := rfl
theorem nilS_ptr (k : Key) (o : Nat) : nilS (.ptr k o) KV = KV (.ptr k o) := rfl
def convS (P : Program) (s t : TypeId) (x : V) (KV : V → Prop) : Prop := match digest P s, digest P t, x with
  | some ⟨.int _, _, _, _⟩, some ⟨.int k, _, _, _⟩, .d (.int _ n) => KV (.d (.int k (k.wrap n)))
  | _, _, _ => False
theorem op_convert (t t' : TypeId) (x : Operand) : opS P N O nx s H ⟨dst, .convert t t' x, ty, pos, af, gd⟩ ρ K = convS P t t' (ρ x) (kV K) := rfl
def partsOf (ρ : Operand → V) : List (Nat × Operand) → List (Nat × V)
  | [] => []
  | p :: r => (p.1, ρ p.2) :: partsOf ρ r
theorem partsOf_eq (ρ : Operand → V) (l : List (Nat × Operand)) : l.map (fun p => (p.1, ρ p.2)) = partsOf ρ l := by
  induction l with
  | nil => rfl
  | cons p r ih => simp [-Int.not_le, -Int.not_lt, partsOf, ih]
def buildV (P : Program) (t : TypeId) (ps : List (Nat × V)) (KV : V → Prop) : Prop := match digest P t with
  | some ⟨.struct fs, _, _, zc⟩ => (fs.all fun f => (digest P f.2).isSome) = true ∧ match fillV P fs zc ps with
    | some c => KV (.agg c)
    | none => False
  | _ => False
theorem op_build (t : TypeId) (l : List (Nat × Operand)) : opS P N O nx s H ⟨dst, .build t l.toArray, ty, pos, af, gd⟩ ρ K = buildV P t (partsOf ρ l) (kV K) := by
  rw [← partsOf_eq]; rfl
def lenS (P : Program) (t : TypeId) (x : V) (KV : V → Prop) : Prop := match digest P t, lenV x with
  | some ⟨.slice _, _, _, _⟩, some n => KV (.d (.int .i64 n))
  | _, _ => False
theorem op_len (x : Operand) (t : TypeId) : opS P N O nx s H ⟨dst, .call ⟨.builtin .len, #[x], #[t]⟩, ty, pos, af, gd⟩ ρ K = lenS P t (ρ x) (kV K) := rfl
def maxS (x y : V) (KV : V → Prop) : Prop := match x, y with
  | .d (.int k a), .d (.int k' b) => KV (.d (.int k (if b > a then b else a)))
  | _, _ => False
theorem op_max (x y : Operand) (ts : Array TypeId) : opS P N O nx s H ⟨dst, .call ⟨.builtin .max, #[x, y], ts⟩, ty, pos, af, gd⟩ ρ K = maxS (ρ x) (ρ y) (kV K) := rfl
theorem maxS_int (k k' : IntKind) (a b : Int) : maxS (.d (.int k a)) (.d (.int k' b)) KV = KV (.d (.int k (if a < b then b else a))) := rfl
def minS (x y : V) (KV : V → Prop) : Prop := match x, y with
  | .d (.int k a), .d (.int k' b) => KV (.d (.int k (if b < a then b else a)))
  | _, _ => False
theorem op_min (x y : Operand) (ts : Array TypeId) : opS P N O nx s H ⟨dst, .call ⟨.builtin .min, #[x, y], ts⟩, ty, pos, af, gd⟩ ρ K = minS (ρ x) (ρ y) (kV K) := rfl
theorem minS_int (k k' : IntKind) (a b : Int) : minS (.d (.int k a)) (.d (.int k' b)) KV = KV (.d (.int k (if b < a then b else a))) := rfl
theorem op_load (t : TypeId) (p : Operand) : opS P N O nx s H ⟨dst, .load t p, ty, pos, af, gd⟩ ρ K = loadS P H t (ρ p) K := rfl
def loadC (P : Program) (o : Option (List V × Nat)) (t : TypeId) (KV : V → Prop) : Prop := match o, digest P t with
  | some (c, o), some I => partV I c o KV
  | _, _ => False
theorem loadS_eq (t : TypeId) (p : V) : loadS P H t p K = loadC P (cellsAt H p) t (kL K p) := rfl
theorem loadC_some (c : List V) (o : Nat) (t : TypeId) : loadC P (some (c, o)) t KV = match digest P t with
  | some I => partV I c o KV
  | none => False := by
  unfold loadC
  cases digest P t <;> rfl
theorem op_store (t : TypeId) (p x : Operand) : opS P N O nx s H ⟨dst, .store t p x, ty, pos, af, gd⟩ ρ K = storeS P H t (ρ p) (ρ x) K := rfl
theorem op_alloc (t : TypeId) : opS P N O nx s H ⟨dst, .alloc t, ty, pos, af, gd⟩ ρ K = allocS P s t K := rfl
theorem op_box (t : TypeId) (x : Operand) : opS P N O nx s H ⟨dst, .box t x, ty, pos, af, gd⟩ ρ K = boxS s (ρ x) K := rfl
theorem op_buildSlice (t : TypeId) (n : Nat) (l : List (Nat × Operand)) : opS P N O nx s H ⟨dst, .buildSlice t n l.toArray, ty, pos, af, gd⟩ ρ K = buildS P (ownT O dst) s t n (partsOf ρ l) K := by
  rw [← partsOf_eq]; rfl
theorem op_makeSlice (t : TypeId) (l c : Operand) : opS P N O nx s H ⟨dst, .makeSlice t l c, ty, pos, af, gd⟩ ρ K = makeS P s t (ρ l) (ρ c) K := rfl
theorem op_append (b x : Operand) (t t' : TypeId) : opS P N O nx s H ⟨dst, .call ⟨.builtin .append, #[b, x], #[t, t']⟩, ty, pos, af, gd⟩ ρ K = (t' = t ∧ appendS P H s t (ρ b) (ρ x) K) := rfl
theorem op_copy (b x : Operand) (t t' : TypeId) : opS P N O nx s H ⟨dst, .call ⟨.builtin .copy, #[b, x], #[t, t']⟩, ty, pos, af, gd⟩ ρ K = copyS P H t (ρ b) (ρ x) K := rfl
theorem op_callT (t : Nat) (l : List Operand) (ts : Array TypeId) : opS P N O nx s H ⟨dst, .call ⟨.value (.tmp t), l.toArray, ts⟩, ty, pos, af, gd⟩ ρ K = fnS (ρ (.tmp t)) fun f => CallJ P N nx s H f (l.map ρ) K := rfl
theorem fnS_fn (f : Nat) (K : Nat → Prop) : fnS (.fn f []) K = K f := rfl
theorem op_call (f : Nat) (l : List Operand) (ts : Array TypeId) : opS P N O nx s H ⟨dst, .call ⟨.value (.func f), l.toArray, ts⟩, ty, pos, af, gd⟩ ρ K = CallJ P N nx s H f (l.map ρ) K := rfl
theorem retQ_ret (rs : List ResultVar) (r : V) (Hr : Store) : retQ P rs r Hr .ret S = resS P S.T S.H rs (kEnd P S.H r Hr) := rfl
theorem retQ_normal (rs : List ResultVar) (r : V) (Hr : Store) : retQ P rs r Hr .normal S = resS P S.T S.H rs (kEnd P S.H r Hr) := rfl
theorem resS_nil (KL : List V → Prop) : resS P T H [] KL = KL [] := rfl
theorem resS_tmp (t : Nat) (rs : List ResultVar) (KL : List V → Prop) : resS P T H (.tmp t :: rs) KL = resS P T H rs (kR KL (T t)) := rfl
theorem resS_cell (a : Nat) (t : TypeId) (rs : List ResultVar) (KL : List V → Prop) : resS P T H (.cell a t :: rs) KL = loadC P (cellsAt H (T a)) t (kRs P T H rs KL) := rfl
theorem kR_at (KL : List V → Prop) (v : V) (vs : List V) : kR KL v vs = KL (v :: vs) := rfl
theorem kRs_at (rs : List ResultVar) (KL : List V → Prop) (v : V) : kRs P T H rs KL v = resS P T H rs (kR KL v) := rfl
theorem kEnd_1 (r : V) (Hr : Store) (v : V) : kEnd P H r Hr [v] = RLe P H v r Hr := rfl
theorem kEnd_2 (r : V) (Hr : Store) (v w : V) (vs : List V) : kEnd P H r Hr (v :: w :: vs) = RLe P H (.tup (v :: w :: vs)) r Hr := rfl
theorem tl_nil (j : Nat) : tl [] j = .unk := rfl
theorem tl_cons (d : Nat) (v : V) (r : List (Nat × V)) (j : Nat) : tl ((d, v) :: r) j = if j = d then v else tl r j := rfl
theorem hl_nil (j : Key) : hl [] j = none := rfl
theorem hl_cons (k : Key) (e : Ent) (r : List (Key × Ent)) (j : Key) : hl ((k, e) :: r) j = if j = k then some e else hl r j := rfl
theorem tput_at (d : Nat) (v : V) (T : Nat → V) (j : Nat) : tput d v T j = if j = d then v else T j := rfl
theorem setH_at (k : Key) (e : Option Ent) (H : Store) (j : Key) : setH k e H j = if j = k then e else H j := rfl
theorem argT_at (vs : List V) (j : Nat) : argT vs j = vs.getD j .unk := rfl
theorem hemp_at (k : Key) : hemp k = none := rfl
theorem upApp_some (s : Nat) (e : TypeId) (n : Nat) (c : List V) (k : Key) : app (upApp s e n c (some k)) H = setH (s, 0) (some (.row e n c)) (setH k none H) := by
  unfold upApp; rw [app_up1]; simp only []; rw [app_up1]; rfl
theorem upApp_none (s : Nat) (e : TypeId) (n : Nat) (c : List V) : app (upApp s e n c none) H = setH (s, 0) (some (.row e n c)) H := by
  unfold upApp; rw [app_up1]; rfl
end
attribute [simp ↓] wp_skip wp_seq wp_cond wp_block wp_exit wp_ret wp_loop wp_region endK_at seqQ_normal seqQ_exit seqQ_ret blockQ_normal blockQ_ret blockQ_exit runO_nil runO_cons runO_guard stepK_text stepK_text0 stepK_draw stepK_draw0 stepK_draw_md stepK_draw_md0 noisyM_nil noisyM_0 noisyM_cons kV_at kL_at
attribute [simp ↓] op_move op_assign op_pick op_bin op_un op_fieldAddr op_field op_indexAddr op_slice op_extract op_nilCheck op_convert op_build op_len op_max op_min op_load op_store op_alloc op_box op_buildSlice op_makeSlice op_append op_call op_callT op_copy fnS_fn loadS_eq retQ_ret retQ_normal resS_nil resS_tmp resS_cell kR_at kRs_at kEnd_1 kEnd_2
attribute [simp] ifV_bool ifB_true ifB_false ifB_undef runOH_at noisy_store putT_some putT_none evV_tmp evV_const evV_func absV_bool absV_int absV_str absV_nil
attribute [simp] pickS_bool ite_bools bin_add bin_sub bin_mul bin_quo bin_rem bin_eql bin_neq bin_lss bin_leq bin_gtr bin_geq bin_and bin_xor bin_shr bin_eqlb bin_neqb bin_eql2 bin_eqlS un_not un_neg extractS_0 extractS_1 nilS_ptr partsOf fillV fillR splice lenV maxS_int minS_int
attribute [simp] repV_0 app_upFz tl_nil tl_cons hl_nil hl_cons tput_at setH_at argT_at hemp_at upApp_some upApp_none
attribute [simp] guardV upCall_emp mapK mapL allP VLe VLes asDz invK app_noUp app_up1 cellsAt keyAt isStruct writeAt cellsV okC ownT entIs ELe VLes_d atS asDs asDs_map asD baseOf newsOf V.one cut
end Go.Proofs.YtjknjekemolndaaGreat.Abs
