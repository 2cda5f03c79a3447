/- Plain functions on atoms: lists of whole numbers with a constant and a flag. -/
import Derived.Test.YtkicjflhokckgaaPlainFnExactIsEmptyCell
import Derived.Test.YtkicjflhokckgaaVFnExactIsEmptyCell
set_option linter.unusedVariables false
namespace Go.Proofs.Ytkicjflhokckgaa.Pl
open Go.RowKit Go.Proofs.YtkicjflhokckgaaW.PrintWords Go.Proofs.YtkicjflhokckgaaW.PrintLast Go.Proofs.YtkicjflhokckgaaW.PrintMore

def gcdF (g : Nat) (l : List Int) : Nat := l.foldl (fun g x => Nat.gcd g x.natAbs) g
def gcdL (l : List Int) : Nat := gcdF 0 l
theorem gcdF_cons (g : Nat) (x : Int) (l : List Int) : gcdF g (x :: l) = gcdF (Nat.gcd g x.natAbs) l := rfl
theorem gcdF_eq (l : List Int) : ∀ g, gcdF g l = Nat.gcd g (gcdL l) := by
  induction l with
  | nil => intro g; simp [gcdF, gcdL]
  | cons x l ih =>
    intro g
    have e : gcdL (x :: l) = Nat.gcd x.natAbs (gcdL l) := by
      rw [gcdL, gcdF_cons, ih, Nat.gcd_zero_left]
    rw [e, gcdF_cons, ih, Nat.gcd_assoc]
theorem gcdL_cons (x : Int) (l : List Int) : gcdL (x :: l) = Nat.gcd x.natAbs (gcdL l) := by rw [gcdL, gcdF_cons, gcdF_eq, Nat.gcd_zero_left]
theorem gcdL_dvd (l : List Int) : ∀ x ∈ l, gcdL l ∣ x.natAbs := by
  induction l with
  | nil => intro x hx; cases hx
  | cons y l ih =>
    intro x hx
    rw [gcdL_cons]
    rcases List.mem_cons.1 hx with rfl | hx
    · exact Nat.gcd_dvd_left _ _
    · exact Nat.dvd_trans (Nat.gcd_dvd_right _ _) (ih x hx)
theorem gcdL_le (l : List Int) (B : Nat) (h : ∀ x ∈ l, x.natAbs ≤ B) : gcdL l ≤ B := by
  induction l with
  | nil => simp [gcdL, gcdF]
  | cons y l ih =>
    rw [gcdL_cons]
    by_cases hy : y.natAbs = 0
    · rw [hy, Nat.gcd_zero_left]; exact ih (fun x hx => h x (List.mem_cons_of_mem _ hx))
    · exact Nat.le_trans (Nat.le_of_dvd (by omega) (Nat.gcd_dvd_left _ _)) (h y List.mem_cons_self)
theorem gcdL_zero (l : List Int) : gcdL l = 0 ↔ ∀ x ∈ l, x = 0 := by
  induction l with
  | nil => simp [gcdL, gcdF]
  | cons y l ih =>
    rw [gcdL_cons, Nat.gcd_eq_zero_iff, ih]
    simp
theorem gcd_le_max (a b B : Nat) (ha : a ≤ B) (hb : b ≤ B) : Nat.gcd a b ≤ B := by
  by_cases h : a = 0
  · rw [h, Nat.gcd_zero_left]; exact hb
  · exact Nat.le_trans (Nat.le_of_dvd (by omega) (Nat.gcd_dvd_left _ _)) ha

/-- All numbers of an atom have no divisor in common. -/
def isAt (l : List Int) (c : Int) : Bool := decide (l.length ≤ 4) && isNum c && l.all isNum && decide (Nat.gcd (gcdL l) c.natAbs ≤ 1)
theorem isAt_iff {l : List Int} {c : Int} : isAt l c = true ↔ l.length ≤ 4 ∧ isNum c = true ∧ (∀ x ∈ l, isNum x = true) ∧ Nat.gcd (gcdL l) c.natAbs ≤ 1 := by
  simp only [isAt, Bool.and_eq_true, decide_eq_true_eq, List.all_eq_true, and_assoc]
/-- The greatest common divisor, 1 for 0. -/
def div1 (n : Nat) : Int := if n = 0 then 1 else (n : Int)
theorem mx_div1 (n : Nat) : mx 1 (n : Int) = div1 n := by
  unfold mx div1
  split <;> split <;> omega
theorem div1_pos (n : Nat) : 0 < div1 n := by unfold div1; split <;> omega
abbrev At := List Int × Int × Bool
abbrev At2 := List Int × Int × Bool × Bool
def noAt : At2 := ([], 0, false, false)
def okAt (a : At) : At2 := (a.1, a.2.1, a.2.2, true)
def mkAt (l : List Int) (c : Int) (s : Bool) : At2 :=
  let g := div1 (Nat.gcd (gcdL l) c.natAbs)
  if isAt (l.map (·.tdiv g)) (c.tdiv g) then (l.map (·.tdiv g), c.tdiv g, s, true) else noAt
def makeAt (l : List Int) (c : Int) (s : Bool) : At2 := if decide (l.length ≤ 4) && isNum c && l.all isNum then mkAt l c s else noAt
def negAt (l : List Int) (c : Int) (s : Bool) : At2 := if isAt l c then (l.map (- ·), -c, !s, true) else noAt
def mixL (p : Int) (l1 : List Int) (q : Int) (l2 : List Int) : List Int := l1.zipWith (fun x y => p * x + q * y) l2
def mixAt (l1 : List Int) (c1 : Int) (s1 : Bool) (p : Int) (l2 : List Int) (c2 : Int) (s2 : Bool) (q : Int) : At2 :=
  if isAt l1 c1 && isAt l2 c2 && decide (l1.length = l2.length) && (decide (0 ≤ p) && decide (p ≤ 400000000)) && (decide (0 ≤ q) && decide (q ≤ 400000000)) then
    mkAt (mixL p l1 q l2) (p * c1 + q * c2) (s1 && decide (0 < p) || s2 && decide (0 < q)) else noAt
def fixAt (l : List Int) (c : Int) (s : Bool) (v : Int) (n d : Int) : At2 :=
  if isAt l c && isRat n d && (decide (0 ≤ v) && decide (v < l.length)) then mkAt ((l.map (· * d)).set v.toNat 0) (c * d + l.getD v.toNat 0 * n) s else noAt
/-- Directions compared, g and h being the divisors. -/
def cmpDir (g h : Int) : List Int → List Int → Int
  | x :: xs, y :: ys => if x.tdiv g < y.tdiv h then -1 else if y.tdiv h < x.tdiv g then 1 else cmpDir g h xs ys
  | _, _ => 0
def wayAt (l1 l2 : List Int) : Int := cmpDir (div1 (gcdL l1)) (div1 (gcdL l2)) l1 l2
def sgn (a b : Int) : Int := if a < b then -1 else if b < a then 1 else 0
def strengthAt (l1 : List Int) (c1 : Int) (s1 : Bool) (l2 : List Int) (c2 : Int) (s2 : Bool) : Int :=
  if sgn (c1 * div1 (gcdL l2)) (c2 * div1 (gcdL l1)) ≠ 0 then sgn (c1 * div1 (gcdL l2)) (c2 * div1 (gcdL l1)) else if s1 = s2 then 0 else if s1 then 1 else -1
def cmpAt (l1 : List Int) (c1 : Int) (s1 : Bool) (l2 : List Int) (c2 : Int) (s2 : Bool) : Int :=
  if isAt l1 c1 && isAt l2 c2 && decide (l1.length = l2.length) then (if wayAt l1 l2 ≠ 0 then wayAt l1 l2 else strengthAt l1 c1 s1 l2 c2 s2) else 2

theorem mkAt_len (l : List Int) (c : Int) (s : Bool) : (mkAt l c s).1.length ≤ 4 := by
  unfold mkAt
  simp only []
  split
  · rename_i h
    exact (isAt_iff.1 h).1
  · simp [noAt]
theorem makeAt_len (l : List Int) (c : Int) (s : Bool) : (makeAt l c s).1.length ≤ 4 := by
  unfold makeAt
  split
  · exact mkAt_len _ _ _
  · simp [noAt]
theorem negAt_len (l : List Int) (c : Int) (s : Bool) : (negAt l c s).1.length ≤ 4 := by
  unfold negAt
  split
  · rename_i h
    simpa using (isAt_iff.1 h).1
  · simp [noAt]
theorem mixAt_len (l1 : List Int) (c1 : Int) (s1 : Bool) (p : Int) (l2 : List Int) (c2 : Int) (s2 : Bool) (q : Int) : (mixAt l1 c1 s1 p l2 c2 s2 q).1.length ≤ 4 := by
  unfold mixAt
  split
  · exact mkAt_len _ _ _
  · simp [noAt]
theorem fixAt_len (l : List Int) (c : Int) (s : Bool) (v n d : Int) : (fixAt l c s v n d).1.length ≤ 4 := by
  unfold fixAt
  split
  · exact mkAt_len _ _ _
  · simp [noAt]

/-- k, k + 1, .. -/
def mkI (k : Int) : Nat → List Int
  | 0 => []
  | n + 1 => k :: mkI (k + 1) n
theorem mkI_length (n : Nat) : ∀ k, (mkI k n).length = n := by
  induction n with
  | zero => intro k; rfl
  | succ n ih => intro k; simp [mkI, ih]
theorem mkI_get (n : Nat) : ∀ (k : Int) (i : Nat) (h : i < (mkI k n).length), (mkI k n)[i] = k + i := by
  induction n with
  | zero => intro k i h; simp [mkI] at h
  | succ n ih =>
    intro k i h
    cases i with
    | zero => simp [mkI]
    | succ i => simp [mkI, ih]; omega

theorem natAbs_le_of {x : Int} {B : Nat} (h : -(B : Int) ≤ x ∧ x ≤ B) : x.natAbs ≤ B := by omega
theorem w64_nat {n : Nat} (h : n ≤ 9223372036854775807) : wrap64 (n : Int) = n := w64 (by omega) (by omega)

/-- A loop that appends. -/
theorem ev_push {α β γ : Type} (g : Nat → List β → Int → Option γ) (xs : List α) (f : Nat → α → β) (r : γ)
    (hend : Ev (fun k => g k (xs.mapIdx f) (xs.length : Nat)) r)
    (hstep : ∀ (i : Nat) (h : i < xs.length) (ys : List β), ys.length = i → Ev (fun k => g k (ys ++ [f i xs[i]]) ((i + 1 : Nat) : Int)) r → Ev (fun k => g k ys (i : Int)) r) :
    Ev (fun k => g k [] ((0 : Nat) : Int)) r := by
  have key : ∀ i, i ≤ xs.length → Ev (fun k => g k ((xs.mapIdx f).take i) (i : Int)) r := by
    refine down xs.length ?_ ?_
    · rw [List.take_of_length_le (by simp)]; exact hend
    · intro i hi ih
      refine hstep i hi _ (by simp; omega) ?_
      have e : (xs.mapIdx f).take (i + 1) = (xs.mapIdx f).take i ++ [f i xs[i]] := by
        rw [List.take_succ_eq_append_getElem (by simpa using hi)]; simp
      rw [← e]; exact ih
  simpa using key 0 (by omega)
/-- A loop that fills a list that was made, and goes on. -/
theorem ev_put {α β γ : Type} (g : Nat → List β → Int → Option γ) (xs : List α) (f : Nat → α → β) (z : β) (r : γ)
    (hend : Ev (fun k => g k (xs.mapIdx f) (xs.length : Nat)) r)
    (hstep : ∀ (i : Nat) (h : i < xs.length) (ys : List β), ys.length = xs.length → Ev (fun k => g k (ys.set i (f i xs[i])) ((i + 1 : Nat) : Int)) r → Ev (fun k => g k ys (i : Int)) r) :
    Ev (fun k => g k (List.replicate xs.length z) ((0 : Nat) : Int)) r := by
  have key : ∀ i, i ≤ xs.length → Ev (fun k => g k ((xs.mapIdx f).take i ++ List.replicate (xs.length - i) z) (i : Int)) r := by
    refine down xs.length ?_ ?_
    · have e : (xs.mapIdx f).take xs.length ++ List.replicate (xs.length - xs.length) z = xs.mapIdx f := by
        rw [List.take_of_length_le (by simp)]; simp
      rw [e]
      exact hend
    · intro i hi ih
      refine hstep i hi _ (by simp; omega) ?_
      have e : ((xs.mapIdx f).take i ++ List.replicate (xs.length - i) z).set i (f i xs[i]) = (xs.mapIdx f).take (i + 1) ++ List.replicate (xs.length - (i + 1)) z := by
        rw [List.set_append_right _ _ (by simp; omega)]
        have e1 : i - ((xs.mapIdx f).take i).length = 0 := by simp; omega
        rw [e1, List.take_succ_eq_append_getElem (by simpa using hi), List.append_assoc]
        congr 1
        have e2 : xs.length - i = (xs.length - (i + 1)) + 1 := by omega
        rw [e2, List.replicate_succ]
        simp
      rw [e]
      exact ih
  simpa using key 0 (by omega)

/-- A loop that looks for an element that fails; behind it none has failed. -/
theorem ev_allq {α β : Type} (g : Nat → Int → Option β) (xs : List α) (p : α → Bool) (a b : β)
    (hend : xs.all p = true → Ev (fun k => g k (xs.length : Nat)) a)
    (hgo : ∀ (i : Nat) (h : i < xs.length) (r : β), p xs[i] = true → Ev (fun k => g k ((i + 1 : Nat) : Int)) r → Ev (fun k => g k (i : Int)) r)
    (hno : ∀ (i : Nat) (h : i < xs.length), p xs[i] = false → Ev (fun k => g k (i : Int)) b) :
    Ev (fun k => g k ((0 : Nat) : Int)) (if xs.all p then a else b) := by
  have key : ∀ i, i ≤ xs.length → (xs.take i).all p = true → Ev (fun k => g k (i : Int)) (if (xs.drop i).all p then a else b) := by
    refine down xs.length ?_ ?_
    · intro h
      rw [List.drop_length]
      rw [List.take_length] at h
      simpa using hend h
    · intro i hi ih h
      rw [drop_cons hi, List.all_cons]
      cases hp : p xs[i] with
      | true =>
        have := ih (by rw [List.take_succ_eq_append_getElem hi, List.all_append, h]; simp [hp])
        simpa using hgo i hi _ hp this
      | false => simpa using hno i hi hp
  simpa using key 0 (by omega) (by simp)

/-- A loop that turns a list in place. -/
theorem ev_upd {β γ : Type} (g : Nat → List β → Int → Option γ) (xs : List β) (f : Nat → β → β) (r : γ)
    (hend : Ev (fun k => g k (xs.mapIdx f) (xs.length : Nat)) r)
    (hstep : ∀ (i : Nat) (h : i < xs.length) (ys : List β), ys.length = xs.length → ys[i]? = some xs[i] → Ev (fun k => g k (ys.set i (f i xs[i])) ((i + 1 : Nat) : Int)) r → Ev (fun k => g k ys (i : Int)) r) :
    Ev (fun k => g k xs ((0 : Nat) : Int)) r := by
  have key : ∀ i, i ≤ xs.length → Ev (fun k => g k ((xs.mapIdx f).take i ++ xs.drop i) (i : Int)) r := by
    refine down xs.length ?_ ?_
    · have e : (xs.mapIdx f).take xs.length ++ xs.drop xs.length = xs.mapIdx f := by
        rw [List.take_of_length_le (by simp)]; simp
      rw [e]
      exact hend
    · intro i hi ih
      refine hstep i hi _ (by simp; omega) (by rw [List.getElem?_append_right (by simp; omega)]; simp [List.length_take, Nat.min_eq_left (Nat.le_of_lt hi), hi]) ?_
      have e : ((xs.mapIdx f).take i ++ xs.drop i).set i (f i xs[i]) = (xs.mapIdx f).take (i + 1) ++ xs.drop (i + 1) := by
        rw [List.set_append_right _ _ (by simp; omega)]
        have e1 : i - ((xs.mapIdx f).take i).length = 0 := by simp; omega
        rw [e1, List.take_succ_eq_append_getElem (by simpa using hi), List.append_assoc]
        congr 1
        rw [drop_cons hi, List.getElem_mapIdx]
        rfl
      rw [e]
      exact ih
  simpa using key 0 (by omega)

/-! cells: a number of variables and atoms; regions: a number of variables and cells -/
abbrev Ce := Int × List At
def isCe (d : Int) (l : List At) : Bool := (decide (0 ≤ d) && decide (d ≤ 4)) && decide (l.length ≤ 16) && l.all fun a => isAt a.1 a.2.1 && decide ((a.1.length : Int) = d)
theorem isCe_iff {d : Int} {l : List At} : isCe d l = true ↔ (0 ≤ d ∧ d ≤ 4) ∧ l.length ≤ 16 ∧ ∀ a ∈ l, isAt a.1 a.2.1 = true ∧ (a.1.length : Int) = d := by
  simp only [isCe, Bool.and_eq_true, decide_eq_true_eq, List.all_eq_true, and_assoc]
def isRe (d : Int) (l : List Ce) : Bool := (decide (0 ≤ d) && decide (d ≤ 4)) && decide (l.length ≤ 12) && l.all fun c => isCe c.1 c.2 && decide (c.1 = d)
theorem isRe_iff {d : Int} {l : List Ce} : isRe d l = true ↔ (0 ≤ d ∧ d ≤ 4) ∧ l.length ≤ 12 ∧ ∀ c ∈ l, isCe c.1 c.2 = true ∧ c.1 = d := by
  simp only [isRe, Bool.and_eq_true, decide_eq_true_eq, List.all_eq_true, and_assoc]
/-- What a size guard leaves. -/
def lft (a : Int) (n : Nat) : Int := if a < (n : Int) then -1 else a - n
theorem lft_neg {a : Int} {n : Nat} (h : lft a n < 0) : a < n ∨ a < 0 := by unfold lft at h; split at h <;> omega
theorem lft_nn {a : Int} {n : Nat} (h : ¬ lft a n < 0) : (n : Int) ≤ a ∧ lft a n = a - n := by unfold lft at h ⊢; split at h <;> (try split) <;> omega
def sumL (l : List Nat) : Nat := l.foldr (· + ·) 0
theorem sumL_mem {l : List Nat} {n : Nat} (h : n ∈ l) : n ≤ sumL l := by
  induction l with
  | nil => cases h
  | cons x l ih =>
    simp only [sumL, List.foldr_cons]
    rcases List.mem_cons.1 h with rfl | h
    · omega
    · have := ih h; unfold sumL at this; omega

/-! points and values -/
def isPoint (p : List (Int × Int)) (d : Int) : Bool := decide ((p.length : Int) = d) && p.all fun r => isRat r.1 r.2
theorem isPoint_len {p : List (Int × Int)} {d : Int} (h : isPoint p d = true) : (p.length : Int) = d := by
  unfold isPoint at h
  simp only [Bool.and_eq_true, decide_eq_true_eq] at h
  exact h.1
def valGo : List Int → List (Int × Int) → Int × Int → Int × Int
  | x :: xs, r :: rs, v => valGo xs rs (addR v.1 v.2 (mulR x 1 r.1 r.2).1 (mulR x 1 r.1 r.2).2)
  | _, _, v => v
def valFin (v : Int × Int) : Int × Int × Bool := (v.1, v.2, isRat v.1 v.2)
def valAt (l : List Int) (c : Int) (p : List (Int × Int)) : Int × Int × Bool := if isAt l c && isPoint p l.length then valFin (valGo l p (c, 1)) else (0, 0, false)
def holdAt (l : List Int) (c : Int) (s : Bool) (p : List (Int × Int)) : Bool × Bool :=
  if (valAt l c p).2.2 then (decide ((valAt l c p).1 < 0) || decide ((valAt l c p).1 = 0) && !s, true) else (false, false)

/-! refutations -/
def addMul (n : Int) (coef sum : List Int) : List Int := sum.mapIdx fun j x => x + n * coef.getD j 0
def refEnd (sum : List Int) (k : Int) (st : Bool) : Bool := (sum.all fun x => decide (x = 0)) && (decide (0 < k) || decide (k = 0) && st)
def refGo (sum : List Int) (k : Int) (st : Bool) : List Int → List At → Bool
  | n :: ns, a :: as => if decide (0 ≤ n) && decide (n ≤ 400000000) then refGo (addMul n a.1 sum) (k + n * a.2.1) (st || decide (0 < n) && a.2.2) ns as else false
  | _, _ => refEnd sum k st
def isRef (d : Int) (l : List At) (m : List Int) : Bool := if isCe d l && decide (m.length = l.length) then refGo (List.replicate d.toNat 0) 0 false m l else false

/-! points in cells and regions -/
def inGo (p : List (Int × Int)) : List At → Bool → Bool × Bool
  | [], b => (b, true)
  | a :: as, b => if (holdAt a.1 a.2.1 a.2.2 p).2 then inGo p as (b && (holdAt a.1 a.2.1 a.2.2 p).1) else (false, false)
def inCe (d : Int) (l : List At) (p : List (Int × Int)) : Bool × Bool := if isCe d l && isPoint p d then inGo p l true else (false, false)
def inRo (p : List (Int × Int)) : List Ce → Bool → Bool × Bool
  | [], b => (b, true)
  | c :: cs, b => if (inCe c.1 c.2 p).2 then inRo p cs (b || (inCe c.1 c.2 p).1) else (false, false)
def inRe (d : Int) (l : List Ce) (p : List (Int × Int)) : Bool × Bool := if isRe d l && isPoint p d then inRo p l false else (false, false)

end Go.Proofs.Ytkicjflhokckgaa.Pl
