/- What the printed functions of the law FnExactFormatInt compute, in plain words; each holds under the bounds that it names. -/
import Derived.Test.YtaijkhabcidagaaDoorQFnExactFormatIntx
import Derived.Test.YtaijkhabcidagaaDoorPlainFnExactFormatInt
import Derived.Test.YtaijkhabcidagaaDoorPlainAFnExactFormatInt
set_option linter.unusedVariables false
set_option linter.unusedSimpArgs false
namespace Go.Proofs.YtaijkhabcidagaaDoor.LFnExactFormatInt
open Go.RowKit Go.Proofs.YtaijkhabcidagaaDoor.PFnExactFormatInt Go.Proofs.YtaijkhabcidagaaDoor.Pl Go.Proofs.YtaijkhabcidagaaDoorW.PrintWords Go.Proofs.YtaijkhabcidagaaDoorW.PrintLast Go.Proofs.YtaijkhabcidagaaDoorW.PrintMore

def digs (u : Nat) : List UInt8 := if h : u = 0 then [] else digs (u / 10) ++ [UInt8.ofNat (48 + u % 10)]
termination_by u
decreasing_by omega
theorem digs_zero : digs 0 = [] := by rw [digs, dif_pos rfl]
theorem digs_pos {u : Nat} (h : ¬ u = 0) : digs u = digs (u / 10) ++ [UInt8.ofNat (48 + u % 10)] := by rw [digs, dif_neg h]
def fmtL (n : Int) : List UInt8 := if n = 0 then [48] else if n < 0 then 45 :: digs n.natAbs else digs n.natAbs
/-- The bytes as a string. -/
def bs (l : List UInt8) : ByteArray := ⟨l.toArray⟩
theorem bs_size (l : List UInt8) : (bs l).size = l.length := by unfold bs; simp [ByteArray.size]
theorem bs_append (l m : List UInt8) : bs l ++ bs m = bs (l ++ m) := by
  unfold bs
  apply ByteArray.ext
  simp [ByteArray.data_append]
theorem dig_piece : ∀ d : Nat, d < 10 → (⟨#[48, 49, 50, 51, 52, 53, 54, 55, 56, 57]⟩ : ByteArray).extract d (d + 1) = bs [UInt8.ofNat (48 + d)]
  | 0, _ => rfl | 1, _ => rfl | 2, _ => rfl | 3, _ => rfl | 4, _ => rfl | 5, _ => rfl | 6, _ => rfl | 7, _ => rfl | 8, _ => rfl | 9, _ => rfl
  | n + 10, h => by omega
theorem dig_bd {d : Nat} (h : d < 10) : (0 : Int) ≤ (d : Int) ∧ (d : Int) ≤ ((d + 1 : Nat) : Int) ∧ ((d + 1 : Nat) : Int) ≤ 10 ∧ wrap64 ((d : Int) + 1) = ((d + 1 : Nat) : Int) := by
  refine ⟨by omega, by omega, by omega, ?_⟩
  rw [w64 (by omega) (by omega)]; omega
theorem spec_FormatInt_fin (n : Int) (l : List UInt8) (hl : l.length ≤ 100) : Ev (fun k => spec_FormatInt.l0 k n (bs l) 0) (bs (if n = 0 then [48] else if n < 0 then 45 :: l else l)) := by
  refine Ev.step (fun k => by rw [spec_FormatInt.l0]) ?_
  refine ev_pos rfl (ev_ite (fun h => ?_) (fun h => ev_ite (fun h1 => ev_pos (by rw [bs_size]; omega) ?_) (fun h1 => ?_)))
  · rw [if_pos h]; exact Ev.now _
  · rw [if_neg h, if_pos h1]
    have : (⟨#[45]⟩ : ByteArray) ++ bs l = bs (45 :: l) := bs_append [45] l
    rw [this]; exact Ev.now _
  · rw [if_neg h, if_neg h1]; exact Ev.now _
theorem spec_FormatInt_go (n : Int) : ∀ (j : Nat) (x : Int) (l : List UInt8), x.natAbs < 10 ^ j → j ≤ 20 → l.length + j ≤ 50 → -9223372036854775808 ≤ x → x ≤ 9223372036854775807 →
    Ev (fun k => spec_FormatInt.l0 k n (bs l) x) (bs (if n = 0 then [48] else if n < 0 then 45 :: (digs x.natAbs ++ l) else digs x.natAbs ++ l)) := by
  intro j
  induction j with
  | zero =>
    intro x l hx _ hl _ _
    have : x = 0 := by simp at hx; exact hx
    subst this
    have := spec_FormatInt_fin n l (by omega)
    simpa [digs_zero] using this
  | succ j ih =>
    intro x l hx hj hl h0 h1
    by_cases hz : x = 0
    · subst hz
      have := spec_FormatInt_fin n l (by omega)
      simpa [digs_zero] using this
    · refine Ev.step (fun k => by rw [spec_FormatInt.l0]) (ev_neg hz ?_)
      have hd : x.natAbs % 10 < 10 := by omega
      obtain ⟨b0, b1, b2, et1⟩ := dig_bd hd
      have e10 : (bs [UInt8.ofNat (48 + x.natAbs % 10)]).size = 1 := bs_size _
      have eq : (wrap64 (Int.tdiv x 10)) = Int.tdiv x 10 := by
        have := Int.natAbs_tdiv x 10
        have h2 : x.natAbs.div (10 : Int).natAbs = x.natAbs / 10 := rfl
        exact w64 (by omega) (by omega)
      have en : (Int.tdiv x 10).natAbs = x.natAbs / 10 := by
        have := Int.natAbs_tdiv x 10
        have h2 : x.natAbs.div (10 : Int).natAbs = x.natAbs / 10 := rfl
        omega
      have go := ih (Int.tdiv x 10) (UInt8.ofNat (48 + x.natAbs % 10) :: l) (by rw [en]; rw [Nat.pow_succ] at hx; omega) (by omega) (by simp; omega) (by omega) (by omega)
      rw [en] at go
      have ed : digs x.natAbs ++ l = digs (x.natAbs / 10) ++ UInt8.ofNat (48 + x.natAbs % 10) :: l := by
        rw [digs_pos (show ¬ x.natAbs = 0 by omega), List.append_assoc]; rfl
      rw [ed]
      have ea : bs [UInt8.ofNat (48 + x.natAbs % 10)] ++ bs l = bs (UInt8.ofNat (48 + x.natAbs % 10) :: l) := bs_append _ _
      refine ev_ite (fun hn => ?_) (fun hn => ?_)
      · have et : wrap64 (-(Int.tmod x 10)) = ((x.natAbs % 10 : Nat) : Int) := by
          have := Int.natAbs_tmod x 10
          have h2 : x.natAbs % (10 : Int).natAbs = x.natAbs % 10 := rfl
          rw [w64 (by omega) (by omega)]; omega
        simp only [et, et1, eq, Int.toNat_natCast, dig_piece _ hd, e10, bs_size, ea]
        exact ev_pos b0 (ev_pos b1 (ev_pos b2 (ev_pos (by clear go ih hx; omega) go)))
      · have et : Int.tmod x 10 = ((x.natAbs % 10 : Nat) : Int) := by
          have := Int.natAbs_tmod x 10
          have h2 : x.natAbs % (10 : Int).natAbs = x.natAbs % 10 := rfl
          omega
        simp only [et, et1, eq, Int.toNat_natCast, dig_piece _ hd, e10, bs_size, ea]
        exact ev_pos b0 (ev_pos b1 (ev_pos b2 (ev_pos (by clear go ih hx; omega) go)))
theorem spec_FormatInt_ev (n : Int) (h0 : -9223372036854775808 ≤ n) (h1 : n ≤ 9223372036854775807) : Ev (fun k => spec_FormatInt.f k n) (bs (fmtL n)) := by
  have := spec_FormatInt_go n 20 n [] (by omega) (by omega) (by simp) h0 h1
  rw [List.append_nil] at this
  exact this
theorem decDigits_digs (u : Nat) (h : ¬ u = 0) : Lib.decDigits u = digs u := by
  induction u using Nat.strongRecOn with
  | _ u ih =>
    rw [digs_pos h]
    by_cases h1 : u < 10
    · rw [Lib.decDigits, dif_pos h1, show u / 10 = 0 by omega, digs_zero, show u % 10 = u by omega]; rfl
    · rw [Lib.decDigits, dif_neg h1, ih (u / 10) (by omega) (by omega)]
theorem itoa_fmtL (n : Int) : Lib.itoa n = fmtL n := by
  unfold Lib.itoa fmtL
  by_cases h : n = 0
  · subst h; rw [if_neg (by omega), if_pos rfl]
    show Lib.decDigits 0 = _
    rw [Lib.decDigits, dif_pos (by omega)]; rfl
  · rw [if_neg h]
    by_cases h1 : n < 0
    · rw [if_pos h1, if_pos h1, decDigits_digs _ (by omega)]
    · rw [if_neg h1, if_neg h1, show n.toNat = n.natAbs by omega, decDigits_digs _ (by omega)]
theorem impl_FormatInt_eq (n : Int) (h0 : -9223372036854775808 ≤ n) (h1 : n ≤ 9223372036854775807) : impl_FormatInt.f n = some (bs (fmtL n)) := by
  unfold impl_FormatInt.f strconv_Itoa.f
  rw [if_pos ⟨h0, h1⟩, itoa_fmtL]
  rfl

end Go.Proofs.YtaijkhabcidagaaDoor.LFnExactFormatInt
