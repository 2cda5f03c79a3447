/- Plain lemmas on whole numbers, greatest common divisors and lists, and on evaluations that end with enough rounds. -/
import Derived.Test.YtkicjflhokckgaaVFnExactIsEmptyCell
set_option linter.unusedVariables false
namespace Go.Proofs.Ytkicjflhokckgaa.Pl
open Go.RowKit Go.Proofs.YtkicjflhokckgaaW.PrintWords

theorem ev_ite {α : Type} {c : Prop} [Decidable c] {g f : Nat → Option α} {r : α} (h : c → Ev g r) (h' : ¬ c → Ev f r) : Ev (fun k => if c then g k else f k) r := by
  by_cases hc : c
  · simp only [hc, if_true]; exact h hc
  · simp only [hc, if_false]; exact h' hc
theorem ev_some {α : Type} {a r : α} (h : a = r) : Ev (fun _ => some a) r := h ▸ Ev.now a
theorem ev_eq {α : Type} {g : Option α} {r : α} (h : g = some r) : Ev (fun _ => g) r := h ▸ Ev.now r
theorem ev_bindS {α β : Type} {g : Option α} {f : Nat → α → Option β} {a : α} {r : β} (h : g = some a) (k : Ev (fun n => f n a) r) : Ev (fun n => g.bind (f n)) r := by subst h; exact k
theorem ev_eqr {α : Type} {g : Nat → Option α} {r r' : α} (h : Ev g r) (e : r = r') : Ev g r' := e ▸ h

theorem w64 {a : Int} (h : -9223372036854775808 ≤ a) (h' : a ≤ 9223372036854775807) : wrap64 a = a := by unfold wrap64; omega

/-! numbers -/
def isNum (n : Int) : Bool := decide (-400000000 ≤ n) && decide (n ≤ 400000000)
theorem isNum_iff {n : Int} : isNum n = true ↔ -400000000 ≤ n ∧ n ≤ 400000000 := by simp [isNum]
theorem isNum_neg {n : Int} (h : isNum n = true) : isNum (-n) = true := by rw [isNum_iff] at *; omega

theorem tmod_lt {a b : Int} (h : ¬ b = 0) : (a.tmod b).natAbs < b.natAbs := by
  rw [Int.natAbs_tmod]
  exact Nat.mod_lt _ (by omega)

def eu (a b : Int) : Int := if h : b = 0 then a else eu b (a.tmod b)
termination_by b.natAbs
decreasing_by exact tmod_lt h

theorem eu_gcd (a b : Int) : (eu a b).natAbs = Int.gcd a b := by
  fun_induction eu a b with
  | case1 a => simp
  | case2 a b h ih =>
    rw [ih]
    unfold Int.gcd
    rw [Int.natAbs_tmod, Nat.gcd_comm a.natAbs b.natAbs, Nat.gcd_comm b.natAbs (a.natAbs % b.natAbs), ← Nat.gcd_rec]
theorem eu_nonneg (a b : Int) (ha : 0 ≤ a) (hb : 0 ≤ b) : 0 ≤ eu a b := by
  fun_induction eu a b with
  | case1 a => exact ha
  | case2 a b h ih => exact ih hb (Int.tmod_nonneg _ ha)
theorem eu_abs (a b : Int) : eu (a.natAbs : Int) (b.natAbs : Int) = (Int.gcd a b : Int) := by
  have h := eu_gcd (a.natAbs : Int) (b.natAbs : Int)
  have h0 := eu_nonneg (a.natAbs : Int) (b.natAbs : Int) (by omega) (by omega)
  have : Int.gcd (a.natAbs : Int) (b.natAbs : Int) = Int.gcd a b := by simp [Int.gcd]
  omega

theorem gcd_le (a b : Int) (h : ¬ b = 0) : (Int.gcd a b : Int) ≤ b.natAbs := by
  have : Int.gcd a b ≤ b.natAbs := Nat.le_of_dvd (by omega) (Nat.gcd_dvd_right _ _)
  omega
theorem gcd_pos (a b : Int) (h : ¬ b = 0) : 0 < (Int.gcd a b : Int) := by
  have : 0 < Int.gcd a b := Nat.gcd_pos_of_pos_right _ (by omega)
  omega
theorem tdiv_le (a g : Int) : ((a.tdiv g).natAbs : Int) ≤ a.natAbs := by
  rw [Int.natAbs_tdiv]
  have h : a.natAbs.div g.natAbs ≤ a.natAbs := Nat.div_le_self a.natAbs g.natAbs
  omega
theorem w64_tdiv {a g : Int} (h : -9223372036854775807 ≤ a) (h' : a ≤ 9223372036854775807) : wrap64 (a.tdiv g) = a.tdiv g := by
  have := tdiv_le a g
  exact w64 (by omega) (by omega)

/-! ratios -/
def gcdOf (a b : Int) : Int := if isNum a && isNum b then (Int.gcd a b : Int) else 0
def isRat (n d : Int) : Bool := decide (1 ≤ d) && decide (d ≤ 400000000) && isNum n && decide (Int.gcd n d = 1)
theorem isRat_iff {n d : Int} : isRat n d = true ↔ (1 ≤ d ∧ d ≤ 400000000) ∧ (-400000000 ≤ n ∧ n ≤ 400000000) ∧ Int.gcd n d = 1 := by
  simp only [isRat, isNum, Bool.and_eq_true, decide_eq_true_eq]
  omega
def redOf (n d : Int) : Int × Int := if isRat (n.tdiv (Int.gcd n d)) (d.tdiv (Int.gcd n d)) then (n.tdiv (Int.gcd n d), d.tdiv (Int.gcd n d)) else (0, 0)
def red (n d : Int) : Int × Int := if d = 0 then (0, 0) else if d < 0 then redOf (-n) (-d) else redOf n d
def makR (n d : Int) : Int × Int := if isNum n && isNum d then red n d else (0, 0)
def addR (a b c d : Int) : Int × Int := if isRat a b && isRat c d then red (a * d + c * b) (b * d) else (0, 0)
def mulR (a b c d : Int) : Int × Int := if isRat a b && isRat c d then red (a * c) (b * d) else (0, 0)
def divR (a b c d : Int) : Int × Int := if isRat a b && isRat c d then (if c = 0 then (0, 0) else red (a * d) (b * c)) else (0, 0)
def negR (a b : Int) : Int × Int := if isRat a b then (-a, b) else (0, 0)
def cmpR (a b c d : Int) : Int := if isRat a b && isRat c d then (if a * d < c * b then -1 else if c * b < a * d then 1 else 0) else 2

theorem mul_bd {a b : Int} (ha : -400000000 ≤ a ∧ a ≤ 400000000) (hb : -400000000 ≤ b ∧ b ≤ 400000000) : -160000000000000000 ≤ a * b ∧ a * b ≤ 160000000000000000 := by
  have h : (a * b).natAbs ≤ 400000000 * 400000000 := by
    rw [Int.natAbs_mul]
    exact Nat.mul_le_mul (by omega) (by omega)
  omega


/-! loops -/
theorem down {P : Nat → Prop} (n : Nat) (h0 : P n) (hs : ∀ i, i < n → P (i + 1) → P i) : ∀ i, i ≤ n → P i := by
  intro i hi
  obtain ⟨d, rfl⟩ : ∃ d, i = n - d := ⟨n - i, by omega⟩
  induction d with
  | zero => simpa using h0
  | succ d ih =>
    by_cases h : d < n
    · have e : n - d = (n - (d + 1)) + 1 := by omega
      exact hs _ (by omega) (by rw [← e]; exact ih (by omega))
    · have e : n - (d + 1) = n - d := by omega
      rw [e]; exact ih (by omega)
theorem w64_succ {i : Nat} (h : i ≤ 4611686018427387904) : wrap64 ((i : Int) + 1) = ((i + 1 : Nat) : Int) := by rw [w64 (by omega) (by omega)]; omega
theorem getD_of_lt {α : Type} {xs : List α} {z : α} {i : Nat} (h : i < xs.length) : xs.getD i z = xs[i] := by simp [List.getD_eq_getElem?_getD, h]
theorem drop_cons {α : Type} {xs : List α} {i : Nat} (h : i < xs.length) : xs.drop i = xs[i] :: xs.drop (i + 1) := List.drop_eq_getElem_cons h

/-- A loop that fills a list that was made. -/
theorem ev_fill {α β : Type} (g : Nat → List β → Int → Option (List β)) (xs : List α) (f : Nat → α → β) (z : β)
    (hend : ∀ ys, Ev (fun k => g k ys (xs.length : Nat)) ys)
    (hstep : ∀ (i : Nat) (h : i < xs.length) (ys : List β) (r : List β), ys.length = xs.length → Ev (fun k => g k (ys.set i (f i xs[i])) ((i + 1 : Nat) : Int)) r → Ev (fun k => g k ys (i : Int)) r) :
    Ev (fun k => g k (List.replicate xs.length z) ((0 : Nat) : Int)) (xs.mapIdx f) := by
  have key : ∀ i, i ≤ xs.length → Ev (fun k => g k ((xs.mapIdx f).take i ++ List.replicate (xs.length - i) z) (i : Int)) (xs.mapIdx f) := by
    refine down xs.length ?_ ?_
    · have e : (xs.mapIdx f).take xs.length ++ List.replicate (xs.length - xs.length) z = xs.mapIdx f := by
        rw [List.take_of_length_le (by simp)]; simp
      rw [e]
      exact hend _
    · intro i hi ih
      refine hstep i hi _ _ (by simp; omega) ?_
      have e : ((xs.mapIdx f).take i ++ List.replicate (xs.length - i) z).set i (f i xs[i]) = (xs.mapIdx f).take (i + 1) ++ List.replicate (xs.length - (i + 1)) z := by
        rw [List.set_append_right _ _ (by simp; omega)]
        have e1 : i - ((xs.mapIdx f).take i).length = 0 := by simp; omega
        rw [e1, List.take_succ_eq_append_getElem (by simpa using hi), List.append_assoc]
        congr 1
        have e2 : xs.length - i = (xs.length - (i + 1)) + 1 := by omega
        rw [e2, List.replicate_succ]
        simp
      rw [e]
      exact ih
  simpa using key 0 (by omega)

/-- A loop that goes over a list with a state. -/
theorem ev_fold {α σ β : Type} (g : Nat → σ → Int → Option β) (xs : List α) (f : σ → α → σ) (R : σ → β) (I : σ → Prop)
    (hend : ∀ s, I s → Ev (fun k => g k s (xs.length : Nat)) (R s))
    (hstep : ∀ (i : Nat) (h : i < xs.length) (s : σ) (r : β), I s → I (f s xs[i]) ∧ (Ev (fun k => g k (f s xs[i]) ((i + 1 : Nat) : Int)) r → Ev (fun k => g k s (i : Int)) r)) :
    ∀ s, I s → Ev (fun k => g k s ((0 : Nat) : Int)) (R (xs.foldl f s)) := by
  have key : ∀ i, i ≤ xs.length → ∀ s, I s → Ev (fun k => g k s (i : Int)) (R ((xs.drop i).foldl f s)) := by
    refine down xs.length ?_ ?_
    · intro s hs
      rw [List.drop_length]
      exact hend s hs
    · intro i hi ih s hs
      rw [drop_cons hi]
      exact (hstep i hi s _ hs).2 (ih _ (hstep i hi s (R s) hs).1)
  intro s hs
  simpa using key 0 (by omega) s hs

/-- A loop that looks for an element that fails. -/
theorem ev_all {α β : Type} (g : Nat → Int → Option β) (xs : List α) (p : α → Bool) (a b : β)
    (hend : Ev (fun k => g k (xs.length : Nat)) a)
    (hgo : ∀ (i : Nat) (h : i < xs.length) (r : β), p xs[i] = true → Ev (fun k => g k ((i + 1 : Nat) : Int)) r → Ev (fun k => g k (i : Int)) r)
    (hno : ∀ (i : Nat) (h : i < xs.length), p xs[i] = false → Ev (fun k => g k (i : Int)) b) :
    Ev (fun k => g k ((0 : Nat) : Int)) (if xs.all p then a else b) := by
  have key : ∀ i, i ≤ xs.length → Ev (fun k => g k (i : Int)) (if (xs.drop i).all p then a else b) := by
    refine down xs.length ?_ ?_
    · rw [List.drop_length]
      simpa using hend
    · intro i hi ih
      rw [drop_cons hi, List.all_cons]
      cases h : p xs[i] with
      | true => simpa using hgo i hi _ h ih
      | false => simpa using hno i hi h
  simpa using key 0 (by omega)

theorem ev_pos {α : Type} {c : Prop} [Decidable c] {g f : Nat → Option α} {r : α} (h : c) (h' : Ev g r) : Ev (fun k => if c then g k else f k) r := ev_ite (fun _ => h') (fun n => absurd h n)
theorem ev_neg {α : Type} {c : Prop} [Decidable c] {g f : Nat → Option α} {r : α} (h : ¬ c) (h' : Ev f r) : Ev (fun k => if c then g k else f k) r := ev_ite (fun n => absurd n h) (fun _ => h')
theorem mapIdx_const {α β : Type} (xs : List α) (f : α → β) : xs.mapIdx (fun _ x => f x) = xs.map f := List.ext_getElem (by simp) (by simp)
theorem size_eq (n : Nat) (h : n ≤ maxLen) : wrap64 (1048576 - (n : Int)) = 1048576 - (n : Int) := by unfold maxLen at h; exact w64 (by omega) (by omega)

end Go.Proofs.Ytkicjflhokckgaa.Pl
