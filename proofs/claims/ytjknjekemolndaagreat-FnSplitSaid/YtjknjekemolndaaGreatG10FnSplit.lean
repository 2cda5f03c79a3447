/- Texts of the abs road (plain values, what code does to them, and the contracts of the functions that the law reaches). No condition. -/
import Derived.Test.YtjknjekemolndaaGreatG9FnSplit
namespace Go.Proofs.YtjknjekemolndaaGreat.ZL
open Go Go.Proofs.YtjknjekemolndaaGreat.Abs Go.Proofs.YtjknjekemolndaaGreat.Abs.Pl Go.RowKit Go.Proofs
set_option linter.unusedVariables false
set_option linter.unusedSimpArgs false
set_option linter.unnecessarySimpa false
set_option maxRecDepth 100000
theorem pickF_cu (cd l : List Int) (c : Cu) (h : c.1 ≤ cd.length) : (pickF cd l c).2.1 ≤ cd.length := belowF_cu _ _ _ h
theorem pickF_mem (cd l : List Int) (c : Cu) (h : 0 < l.length) : (pickF cd l c).1 ∈ l := by
  have := belowF_bd cd (n := l.length) c (by omega)
  exact nth_mem (by omega)
def smA (L : List At) : Prop := ∀ a ∈ L, a.1.length ≤ 5
theorem us_ok (cd : List Int) (d : Nat) (hd : d ≤ 4) : ∀ (n : Nat) (L : List At) (c : Cu), smA L → c.1 ≤ cd.length → smA (us cd d n L c).1 ∧ (us cd d n L c).2.1 ≤ cd.length ∧ (us cd d n L c).1.length = L.length + n
  | 0, L, c, h, hc => ⟨h, hc, rfl⟩
  | n + 1, L, c, h, hc => by
    have := us_ok cd d hd n (L ++ [at2 (drA cd d c).1]) (drA cd d c).2 (fun a ha => by
      rcases List.mem_append.1 ha with ha | ha
      · exact h a ha
      · rw [List.mem_singleton.1 ha]
        have := (drA_ok cd d c hd).2
        show (drA cd d c).1.1.length ≤ 5
        omega) (drA_cu cd d c hc)
    refine ⟨this.1, this.2.1, ?_⟩
    have h3 := this.2.2
    simp only [List.length_append, List.length_singleton] at h3
    show (us cd d n _ _).1.length = _
    omega
theorem axA_ok (cd : List Int) (d v : Nat) (c : Cu) (hd : d ≤ 4) : (axA cd d v c).1.1.length ≤ 4 := by
  unfold axA mkA
  split
  · exact mkAt_len _ _ _
  · simp [-Bool.exists_bool, -Int.not_le, -Int.not_lt, -getElem?_pos, -List.getD_eq_getElem?_getD, noAt]
theorem axA_cu (cd : List Int) (d v : Nat) (c : Cu) (h : c.1 ≤ cd.length) : (axA cd d v c).2.1 ≤ cd.length := belowF_cu _ _ _ (belowF_cu _ _ _ (belowF_cu _ _ _ h))
theorem vs_ok (cd : List Int) (d : Nat) (hd : d ≤ 4) : ∀ (k v : Nat) (L : List At) (c : Cu), smA L → c.1 ≤ cd.length → smA (vs cd d k v L c).1 ∧ (vs cd d k v L c).2.1 ≤ cd.length ∧ (vs cd d k v L c).1.length ≤ L.length + k
  | 0, v, L, c, h, hc => ⟨h, hc, Nat.le_refl _⟩
  | k + 1, v, L, c, h, hc => by
    unfold vs
    split
    · have := vs_ok cd d hd k (v + 1) (L ++ [at2 (axA cd d v (belowF cd 2 c).2).1]) (axA cd d v (belowF cd 2 c).2).2 (fun a ha => by
        rcases List.mem_append.1 ha with ha | ha
        · exact h a ha
        · rw [List.mem_singleton.1 ha]
          have := axA_ok cd d v (belowF cd 2 c).2 hd
          show (axA cd d v (belowF cd 2 c).2).1.1.length ≤ 5
          omega) (axA_cu _ _ _ _ (belowF_cu _ _ _ hc))
      refine ⟨this.1, this.2.1, ?_⟩
      have h3 := this.2.2
      simp only [List.length_append, List.length_singleton] at h3
      omega
    · exact ⟨h, belowF_cu _ _ _ hc, Nat.le_add_right _ _⟩
theorem dr3_ok (cd : List Int) (d : Nat) (c : Cu) (hd : d ≤ 4) (hc : c.1 ≤ cd.length) : smA (dr3 cd d c).1 ∧ (dr3 cd d c).2.1 ≤ cd.length ∧ (dr3 cd d c).1.length ≤ 7 := by
  have hb := belowF_bd cd (n := 4) c (by omega)
  have h1 := us_ok cd d hd (belowF cd 4 c).1.toNat [] (belowF cd 4 c).2 (fun a ha => by simp [-Bool.exists_bool, -Int.not_le, -Int.not_lt, -getElem?_pos, -List.getD_eq_getElem?_getD] at ha) (belowF_cu _ _ _ hc)
  have h2 := vs_ok cd d hd d 0 _ _ h1.1 h1.2.1
  refine ⟨h2.1, h2.2.1, ?_⟩
  have h3 := h2.2.2
  rw [h1.2.2] at h3
  simp only [List.length_nil] at h3
  show (vs cd d d 0 _ _).1.length ≤ 7
  omega
theorem spA_len (cd : List Int) (a : At) (c : Cu) : (spA cd a c).1.1.length ≤ a.1.length + 1 := by
  unfold spA
  repeat' split
  all_goals simp [-Bool.exists_bool, -Int.not_le, -Int.not_lt, -getElem?_pos, -List.getD_eq_getElem?_getD]
def smC (x : Int × List At) : Prop := x.2.length ≤ 100 ∧ ∀ a ∈ x.2, a.1.length ≤ 100
theorem sp3_ok (cd : List Int) (d : Int) (L : List At) (c : Cu) (h : smA L) (hl : L.length ≤ 7) (hc : c.1 ≤ cd.length) : smC (sp3 cd d L c).1 ∧ (sp3 cd d L c).2.1 ≤ cd.length := by
  have h1 := belowF_cu cd 40 c hc
  have hL : smC (d, L) := ⟨by show L.length ≤ 100; omega, fun a ha => by have := h a ha; omega⟩
  unfold sp3
  split
  · exact ⟨hL, pickF_cu _ _ _ h1⟩
  · split
    · cases L with
      | nil => exact ⟨hL, h1⟩
      | cons a T =>
        refine ⟨⟨by simpa [-Bool.exists_bool, -Int.not_le, -Int.not_lt, -getElem?_pos, -List.getD_eq_getElem?_getD] using hL.1, fun b hb => ?_⟩, spA_cu _ _ _ h1⟩
        rcases List.mem_cons.1 hb with rfl | hb
        · have := spA_len cd a (belowF cd 40 c).2
          have := h a (by simp [-Bool.exists_bool, -Int.not_le, -Int.not_lt, -getElem?_pos, -List.getD_eq_getElem?_getD])
          omega
        · exact hL.2 b (by simp [-Bool.exists_bool, -Int.not_le, -Int.not_lt, -getElem?_pos, -List.getD_eq_getElem?_getD, hb])
    · split
      · cases L with
        | nil => exact ⟨hL, h1⟩
        | cons a T =>
          refine ⟨⟨by simp [-Bool.exists_bool, -Int.not_le, -Int.not_lt, -getElem?_pos, -List.getD_eq_getElem?_getD] at hl ⊢; omega, fun b hb => ?_⟩, h1⟩
          rcases List.mem_append.1 hb with hb | hb
          · exact hL.2 b hb
          · rw [(List.mem_replicate.1 hb).2]; exact hL.2 a (by simp [-Bool.exists_bool, -Int.not_le, -Int.not_lt, -getElem?_pos, -List.getD_eq_getElem?_getD])
      · exact ⟨hL, h1⟩
def dimL : List Int := [0, 1, 1, 2, 2, 2, 3]
def anF (cd : List Int) (c : Cu) : (Int × List At) × Cu :=
  sp3 cd (pickF cd dimL c).1 (dr3 cd (pickF cd dimL c).1.toNat (pickF cd dimL c).2).1 (dr3 cd (pickF cd dimL c).1.toNat (pickF cd dimL c).2).2
theorem dim_bd (cd : List Int) (c : Cu) : 0 ≤ (pickF cd dimL c).1 ∧ (pickF cd dimL c).1 ≤ 3 := by
  have := pickF_mem cd dimL c (by simp [-Bool.exists_bool, -Int.not_le, -Int.not_lt, -getElem?_pos, -List.getD_eq_getElem?_getD, dimL])
  generalize (pickF cd dimL c).1 = x at *
  simp [-Bool.exists_bool, -Int.not_le, -Int.not_lt, -getElem?_pos, -List.getD_eq_getElem?_getD, dimL] at this
  omega
theorem anF_ok (cd : List Int) (c : Cu) (hc : c.1 ≤ cd.length) : smC (anF cd c).1 ∧ (anF cd c).2.1 ≤ cd.length := by
  have hb := dim_bd cd c
  have h := dr3_ok cd (pickF cd dimL c).1.toNat (pickF cd dimL c).2 (by omega) (pickF_cu _ _ _ hc)
  exact sp3_ok cd _ _ _ h.1 h.2.2 h.2.1
theorem l3Any (cd : List Int) (c : Cu) (hc : c.1 ≤ cd.length) (h20 : cd.length ≤ 1048576) : Cm Tryz.prog 88 cA [.ptr (0, 1) 0] (cuH cd c) (C1 (anF cd c).1.1 (anF cd c).1.2) (cuH cd (anF cd c).2) := by
  refine Cm.of [] mixed Tryz.func88 rfl Tryz.call88 (by kernel_rfl) rfl ?_
  simp -implicitDefEqProofs -dsimp +contextual [-Bool.exists_bool, -Int.not_le, -Int.not_lt, -getElem?_pos, -List.getD_eq_getElem?_getD, Tryz.f88]
  have hc1 := pickF_cu cd dimL c hc
  have hb := dim_bd cd c
  have hdr := dr3_ok cd (pickF cd dimL c).1.toNat (pickF cd dimL c).2 (by omega) hc1
  refine callPick dimL (0, 1) (by simp [-Bool.exists_bool, -Int.not_le, -Int.not_lt, -getElem?_pos, -List.getD_eq_getElem?_getD, dimL]) hc h20 (by simp [-Bool.exists_bool, -Int.not_le, -Int.not_lt, -getElem?_pos, -List.getD_eq_getElem?_getD, setH]) (by simp [-Bool.exists_bool, -Int.not_le, -Int.not_lt, -getElem?_pos, -List.getD_eq_getElem?_getD]) (by simp [-Bool.exists_bool, -Int.not_le, -Int.not_lt, -getElem?_pos, -List.getD_eq_getElem?_getD]) ?_
  unfold anF
  generalize pickF cd dimL c = y at *
  obtain ⟨d, c1⟩ := y
  simp only at hc1 hb hdr ⊢
  obtain ⟨d, rfl⟩ : ∃ n : Nat, d = n := ⟨d.toNat, by omega⟩
  rw [Int.toNat_natCast] at hdr ⊢
  simp -implicitDefEqProofs -dsimp +contextual [-Bool.exists_bool, -Int.not_le, -Int.not_lt, -getElem?_pos, -List.getD_eq_getElem?_getD]
  refine callD3 d (0, 1) (by omega) hc1 h20 (by simp [-Bool.exists_bool, -Int.not_le, -Int.not_lt, -getElem?_pos, -List.getD_eq_getElem?_getD, setH]) (by simp [-Bool.exists_bool, -Int.not_le, -Int.not_lt, -getElem?_pos, -List.getD_eq_getElem?_getD]) (by simp [-Bool.exists_bool, -Int.not_le, -Int.not_lt, -getElem?_pos, -List.getD_eq_getElem?_getD]) (fun h => ?_) (fun a T h => ?_)
  · generalize dr3 cd d c1 = y at *
    obtain ⟨L, c2⟩ := y
    simp only at hdr h ⊢
    subst h
    simp -implicitDefEqProofs -dsimp +contextual [-Bool.exists_bool, -Int.not_le, -Int.not_lt, -getElem?_pos, -List.getD_eq_getElem?_getD]
    refine callSp3N (0, 1) d hdr.2.1 h20 (by simp [-Bool.exists_bool, -Int.not_le, -Int.not_lt, -getElem?_pos, -List.getD_eq_getElem?_getD, setH]) (by simp [-Bool.exists_bool, -Int.not_le, -Int.not_lt, -getElem?_pos, -List.getD_eq_getElem?_getD]) (by simp [-Bool.exists_bool, -Int.not_le, -Int.not_lt, -getElem?_pos, -List.getD_eq_getElem?_getD]) ?_
    simp -implicitDefEqProofs -dsimp +contextual [-Bool.exists_bool, -Int.not_le, -Int.not_lt, -getElem?_pos, -List.getD_eq_getElem?_getD]
    refine RLm.frzC [] 2 ?_ rfl ?_ ?_
    all_goals simp [-Bool.exists_bool, -Int.not_le, -Int.not_lt, -getElem?_pos, -List.getD_eq_getElem?_getD, setH]
  · generalize dr3 cd d c1 = y at *
    obtain ⟨L, c2⟩ := y
    simp only at hdr h ⊢
    subst h
    have h7 := hdr.2.2
    simp only [List.length_cons] at h7
    have ha := hdr.1 a (by simp [-Bool.exists_bool, -Int.not_le, -Int.not_lt, -getElem?_pos, -List.getD_eq_getElem?_getD])
    simp -implicitDefEqProofs -dsimp +contextual [-Bool.exists_bool, -Int.not_le, -Int.not_lt, -getElem?_pos, -List.getD_eq_getElem?_getD]
    refine callSp3 (0, 1) (7, 0) (7, 1) d a T (by omega) (by omega) hdr.2.1 h20 (by simp [-Bool.exists_bool, -Int.not_le, -Int.not_lt, -getElem?_pos, -List.getD_eq_getElem?_getD, setH]) (by simp [-Bool.exists_bool, -Int.not_le, -Int.not_lt, -getElem?_pos, -List.getD_eq_getElem?_getD, setH]) (by simp [-Bool.exists_bool, -Int.not_le, -Int.not_lt, -getElem?_pos, -List.getD_eq_getElem?_getD, setH]) (by simp [-Bool.exists_bool, -Int.not_le, -Int.not_lt, -getElem?_pos, -List.getD_eq_getElem?_getD]) (by simp [-Bool.exists_bool, -Int.not_le, -Int.not_lt, -getElem?_pos, -List.getD_eq_getElem?_getD]) (by simp [-Bool.exists_bool, -Int.not_le, -Int.not_lt, -getElem?_pos, -List.getD_eq_getElem?_getD]) ?_
    simp -implicitDefEqProofs -dsimp +contextual [-Bool.exists_bool, -Int.not_le, -Int.not_lt, -getElem?_pos, -List.getD_eq_getElem?_getD]
    refine RLm.frzC [] 2 ?_ rfl ?_ ?_
    all_goals simp [-Bool.exists_bool, -Int.not_le, -Int.not_lt, -getElem?_pos, -List.getD_eq_getElem?_getD, setH]
theorem callAny {N nx s : Nat} {H : Store} {K : Eff → Prop} {cd : List Int} {c : Cu} (kb : Key) (hc : c.1 ≤ cd.length) (h20 : cd.length ≤ 1048576) (hH : H kb = some (cuE cd c)) (hs : kb.1 ≠ s) (hn : kb.1 < nx) (hk : K ⟨C1 (anF cd c).1.1 (anF cd c).1.2, [kb], [kb], up1 kb (some (cuE cd (anF cd c).2)) noUp⟩) :
    CallJ Tryz.prog N nx s H 88 [.ptr kb 0] K := callCu kb (l3Any cd c hc h20) (fun g => rfl) (fun _ => by simp [-Bool.exists_bool, -Int.not_le, -Int.not_lt, -getElem?_pos, -List.getD_eq_getElem?_getD, allKs, allK]) (fun g => rfl) hH hs hn hk
end Go.Proofs.YtjknjekemolndaaGreat.ZL
namespace Go.Proofs.YtjknjekemolndaaGreat.ZL
open Go Go.Proofs.YtjknjekemolndaaGreat.Abs Go.Proofs.YtjknjekemolndaaGreat.Abs.Pl Go.RowKit Go.Proofs
set_option linter.unusedVariables false
set_option linter.unusedSimpArgs false
set_option linter.unnecessarySimpa false
set_option maxRecDepth 100000
def newC (cd : List Int) : Cu := (0, newF cd (newN cd))
theorem newC_ok (cd : List Int) : (newC cd).1 ≤ cd.length := Nat.zero_le _
def varF (cd : List Int) : (Int × List At) × Int := ((anF cd (newC cd)).1, (belowF cd 4 (anF cd (newC cd)).2).1 - 1)
theorem l3Var (cd : List Int) (h20 : cd.length ≤ 1048576) : Cn Tryz.prog 50 [Bs cd] (.tup [C1 (varF cd).1.1 (varF cd).1.2, I (varF cd).2]) hemp := by
  refine Cn.of [] mixed Tryz.func50 rfl Tryz.call50 (by kernel_rfl) rfl ?_
  simp -implicitDefEqProofs -dsimp +contextual [-Bool.exists_bool, -Int.not_le, -Int.not_lt, -getElem?_pos, -List.getD_eq_getElem?_getD, Tryz.f50]
  have hN := l1New cd h20
  change Cn Tryz.prog 65 [Bs cd] (.ptr (0, 0) 0) (hl [((0, 0), cuE cd (newC cd))]) at hN
  refine CallJ.pure hN rfl (by simp [-Bool.exists_bool, -Int.not_le, -Int.not_lt, -getElem?_pos, -List.getD_eq_getElem?_getD]) ?_
  simp -implicitDefEqProofs -dsimp +contextual [-Bool.exists_bool, -Int.not_le, -Int.not_lt, -getElem?_pos, -List.getD_eq_getElem?_getD]
  have h1 := anF_ok cd (newC cd) (newC_ok cd)
  unfold varF
  refine callAny (3, 0) (newC_ok cd) h20 (by simp [-Bool.exists_bool, -Int.not_le, -Int.not_lt, -getElem?_pos, -List.getD_eq_getElem?_getD, setH]) (by simp [-Bool.exists_bool, -Int.not_le, -Int.not_lt, -getElem?_pos, -List.getD_eq_getElem?_getD]) (by simp [-Bool.exists_bool, -Int.not_le, -Int.not_lt, -getElem?_pos, -List.getD_eq_getElem?_getD]) ?_
  generalize anF cd (newC cd) = y at *
  obtain ⟨x, c⟩ := y
  simp -implicitDefEqProofs -dsimp +contextual [-Bool.exists_bool, -Int.not_le, -Int.not_lt, -getElem?_pos, -List.getD_eq_getElem?_getD]
  have hb := belowF_bd cd (n := 4) c (by omega)
  refine callBelow 4 (3, 0) h1.2 h20 (by simp [-Bool.exists_bool, -Int.not_le, -Int.not_lt, -getElem?_pos, -List.getD_eq_getElem?_getD, setH]) (by simp [-Bool.exists_bool, -Int.not_le, -Int.not_lt, -getElem?_pos, -List.getD_eq_getElem?_getD]) (by simp [-Bool.exists_bool, -Int.not_le, -Int.not_lt, -getElem?_pos, -List.getD_eq_getElem?_getD]) ?_
  generalize belowF cd 4 c = y at *
  simp -implicitDefEqProofs -dsimp +contextual [-Bool.exists_bool, -Int.not_le, -Int.not_lt, -getElem?_pos, -List.getD_eq_getElem?_getD]
  rw [wr (x := y.1 - 1) (by omega) (by omega)]
  exact RLe.pure 3 (by simp [-Bool.exists_bool, -Int.not_le, -Int.not_lt, -getElem?_pos, -List.getD_eq_getElem?_getD, setH])
theorem DrawDropVariable (cd : List Int) (h20 : cd.length ≤ 1048576) : Cn Tryz.prog 13 [Bs cd] (.tup [C1 (varF cd).1.1 (varF cd).1.2, I (varF cd).2]) hemp := by
  refine Cn.of [] mixed Tryz.func13 rfl Tryz.call13 (by kernel_rfl) rfl ?_
  simp -implicitDefEqProofs -dsimp +contextual [-Bool.exists_bool, -Int.not_le, -Int.not_lt, -getElem?_pos, -List.getD_eq_getElem?_getD, Tryz.f13]
  refine CallJ.pure (l3Var cd h20) rfl (by simp [-Bool.exists_bool, -Int.not_le, -Int.not_lt, -getElem?_pos, -List.getD_eq_getElem?_getD]) ?_
  simp -implicitDefEqProofs -dsimp +contextual [-Bool.exists_bool, -Int.not_le, -Int.not_lt, -getElem?_pos, -List.getD_eq_getElem?_getD]
  exact RLe.pure 3 (by simp [-Bool.exists_bool, -Int.not_le, -Int.not_lt, -getElem?_pos, -List.getD_eq_getElem?_getD, setH])
theorem DrawBoundsOf (cd : List Int) (h20 : cd.length ≤ 1048576) : Cn Tryz.prog 32 [Bs cd] (.tup [C1 (varF cd).1.1 (varF cd).1.2, I (varF cd).2]) hemp := by
  refine Cn.of [] mixed Tryz.func32 rfl Tryz.call32 (by kernel_rfl) rfl ?_
  simp -implicitDefEqProofs -dsimp +contextual [-Bool.exists_bool, -Int.not_le, -Int.not_lt, -getElem?_pos, -List.getD_eq_getElem?_getD, Tryz.f32]
  refine CallJ.pure (l3Var cd h20) rfl (by simp [-Bool.exists_bool, -Int.not_le, -Int.not_lt, -getElem?_pos, -List.getD_eq_getElem?_getD]) ?_
  simp -implicitDefEqProofs -dsimp +contextual [-Bool.exists_bool, -Int.not_le, -Int.not_lt, -getElem?_pos, -List.getD_eq_getElem?_getD]
  exact RLe.pure 3 (by simp [-Bool.exists_bool, -Int.not_le, -Int.not_lt, -getElem?_pos, -List.getD_eq_getElem?_getD, setH])
theorem varF_ok (cd : List Int) : smC (varF cd).1 ∧ -1 ≤ (varF cd).2 ∧ (varF cd).2 ≤ 2 := by
  have h1 := anF_ok cd (newC cd) (newC_ok cd)
  have hb := belowF_bd cd (n := 4) (anF cd (newC cd)).2 (by omega)
  refine ⟨h1.1, ?_, ?_⟩
  · show -1 ≤ (belowF cd 4 (anF cd (newC cd)).2).1 - 1; omega
  · show (belowF cd 4 (anF cd (newC cd)).2).1 - 1 ≤ 2; omega
end Go.Proofs.YtjknjekemolndaaGreat.ZL
namespace Go.Proofs.YtjknjekemolndaaGreat.ZL
open Go Go.Proofs.YtjknjekemolndaaGreat.Abs Go.Proofs.YtjknjekemolndaaGreat.Abs.Pl Go.RowKit Go.Proofs
set_option linter.unusedVariables false
set_option linter.unusedSimpArgs false
set_option linter.unnecessarySimpa false
set_option maxRecDepth 100000
set_option maxHeartbeats 8000000
theorem big (cd : List Int) : Cn Tryz.prog 12 [Bs cd] (B (decide (1048576 < cd.length))) hemp := by
  refine Cn.of [] mixed Tryz.func12 rfl Tryz.call12 (by kernel_rfl) rfl ?_
  simp -implicitDefEqProofs -dsimp +contextual [-Bool.exists_bool, -Int.not_le, -Int.not_lt, -getElem?_pos, -List.getD_eq_getElem?_getD, Tryz.f12]
  exact RLe.bb (by congr 1; simp [-Bool.exists_bool, -Int.not_le, -Int.not_lt, -getElem?_pos, -List.getD_eq_getElem?_getD]; omega)
theorem byts_of {cd : List Int} (h : ∀ y ∈ cd, (Lit.int .u8 y).wf = true) : byts cd := fun y hy => by
  have := h y hy
  simp [-Bool.exists_bool, -Int.not_le, -Int.not_lt, -getElem?_pos, -List.getD_eq_getElem?_getD, Lit.wf] at this
  exact this
theorem csD_one (d : Int) (L : List At) : csD [(d, L)] = [.int .i64 d, .sl L.length (asD L)] := rfl
end Go.Proofs.YtjknjekemolndaaGreat.ZL
namespace Go.Proofs.YtjknjekemolndaaGreat.ZL
open Go Go.Proofs.YtjknjekemolndaaGreat.Abs Go.Proofs.YtjknjekemolndaaGreat.Abs.Pl Go.RowKit Go.Proofs
set_option linter.unusedVariables false
set_option linter.unusedSimpArgs false
set_option maxRecDepth 100000
theorem NeatRegion (d : Int) (L : List Ce) (h20 : L.length ≤ 1048576) (hc : ∀ c ∈ L, c.2.length ≤ 1048576) : Cn Tryz.prog 26 [R1 d L] (RD (neatD d L)) hemp := by
  refine Cn.of [0] mixed Tryz.func26 rfl Tryz.call26 (by kernel_rfl) rfl ?_
  simp -implicitDefEqProofs -dsimp +contextual [-Bool.exists_bool, -Int.not_le, -Int.not_lt, -getElem?_pos, -List.getD_eq_getElem?_getD, Tryz.f26]
  refine CallJ.pure (IsRegion d L h20 hc) rfl (by simp [-Bool.exists_bool, -Int.not_le, -Int.not_lt, -getElem?_pos, -List.getD_eq_getElem?_getD]) ?_
  simp -implicitDefEqProofs -dsimp +contextual [-Bool.exists_bool, -Int.not_le, -Int.not_lt, -getElem?_pos, -List.getD_eq_getElem?_getD]
  refine ⟨fun hr => ?_, fun hr => RLe.pure 2 (by simp [-Bool.exists_bool, -Int.not_le, -Int.not_lt, -getElem?_pos, -List.getD_eq_getElem?_getD, neatD, hr, csD])⟩
  obtain ⟨hd, h12, hok⟩ := isRe_ok hr
  have e0 : neatD d L = optR d (neatGo L []) := by rw [neatD, if_pos hr]
  refine WP.loop mixed [0] (fun p : Nat × List Ce => ⟨tl [(1, .ptr (0, 0) 0), (2, .ptr (1, 0) 0), (4, .ptr (2, 0) 0), (5, I p.1)], hl [((0, 0), .box [I d, Cs L]), ((1, 0), .box [I 0, .nil]), ((2, 0), .box [I d, Cs p.2])], 3⟩) (fun p => p.1 ≤ L.length ∧ okCs d p.2 ∧ neatGo L [] = neatGo (L.drop p.1) p.2) (fun p => L.length - p.1) (0, []) (by kernel_rfl) ?_ ?_ ?_
  · refine Le.told [((2, 0), (9, 0))] ?_ ?_ ?_ <;> simp [-Bool.exists_bool, -Int.not_le, -Int.not_lt, -getElem?_pos, -List.getD_eq_getElem?_getD, setH, csD]
  · exact ⟨Nat.zero_le _, ⟨by simp [-Bool.exists_bool, -Int.not_le, -Int.not_lt, -getElem?_pos, -List.getD_eq_getElem?_getD], by simp [-Bool.exists_bool, -Int.not_le, -Int.not_lt, -getElem?_pos, -List.getD_eq_getElem?_getD]⟩, rfl⟩
  · rintro ⟨i, acc⟩ ⟨hi, ha, he⟩
    simp only at hi ha he
    by_cases h : i < L.length
    · simp -implicitDefEqProofs -dsimp +contextual [-Bool.exists_bool, -Int.not_le, -Int.not_lt, -getElem?_pos, -List.getD_eq_getElem?_getD, h]
      have hcc := hok _ (nth_mem h)
      refine CallJ.pure (l4Add d acc (nth L i) hcc ha.1) rfl (by simp [-Bool.exists_bool, -Int.not_le, -Int.not_lt, -getElem?_pos, -List.getD_eq_getElem?_getD]) ?_
      rw [nth_drop h, neatGo] at he
      have at_ := addS_t (d := d) (cs := acc) (c := nth L i)
      have af_ := addS_f (d := d) (cs := acc) (c := nth L i)
      generalize addS d acc (nth L i) = r at at_ af_ ⊢
      obtain ⟨r1, r2, r3⟩ := r
      simp only at at_ af_
      simp -implicitDefEqProofs -dsimp +contextual [-Bool.exists_bool, -Int.not_le, -Int.not_lt, -getElem?_pos, -List.getD_eq_getElem?_getD, h]
      refine ⟨Quiet.of [] (by kernel_rfl) (by simp [-Bool.exists_bool, -Int.not_le, -Int.not_lt, -getElem?_pos, -List.getD_eq_getElem?_getD, allP, offB]), fun hf => ?_, fun hf => ?_⟩
      · obtain ⟨a1, rfl⟩ := at_ hf
        rw [a1, Option.bind_some] at he
        refine ⟨i + 1, r2, ⟨h, addC_ok hcc.1 ha a1, he⟩, by omega, ?_⟩
        rw [wr (by omega) (by omega)]
        refine Le.told [] ?_ ?_ ?_ <;> simp [-Bool.exists_bool, -Int.not_le, -Int.not_lt, -getElem?_pos, -List.getD_eq_getElem?_getD]
      · rw [af_ (by simp [-Bool.exists_bool, -Int.not_le, -Int.not_lt, -getElem?_pos, -List.getD_eq_getElem?_getD, hf]), Option.bind_none] at he
        exact RLe.pure 2 (by rw [e0, he]; simp [-Bool.exists_bool, -Int.not_le, -Int.not_lt, -getElem?_pos, -List.getD_eq_getElem?_getD, optR])
    · rw [drop_nil (by omega), neatGo] at he
      simp -implicitDefEqProofs -dsimp +contextual [-Bool.exists_bool, -Int.not_le, -Int.not_lt, -getElem?_pos, -List.getD_eq_getElem?_getD, h]
      exact RLe.pure 3 (by rw [e0, he]; simp [-Bool.exists_bool, -Int.not_le, -Int.not_lt, -getElem?_pos, -List.getD_eq_getElem?_getD, optR])
end Go.Proofs.YtjknjekemolndaaGreat.ZL
namespace Go.Proofs.YtjknjekemolndaaGreat.ZL
open Go Go.Proofs.YtjknjekemolndaaGreat.Abs Go.Proofs.YtjknjekemolndaaGreat.Abs.Pl Go.RowKit Go.Proofs
set_option linter.unusedVariables false
set_option linter.unusedSimpArgs false
set_option maxRecDepth 100000
def negA (a : At) : At := (a.1.map (- ·), -a.2.1, !a.2.2)
def partC (d : Int) (x : List At) (k : Nat) : Ce := (d, x.take k ++ [negA (nth x k)])
def lessIn (d : Int) (c : Ce) (x : List At) : Nat → List Ce → Option (List Ce)
  | 0, acc => some acc
  | n + 1, acc => if (meetC c (partC d x (x.length - (n + 1)))).2.2 = true then (addC acc ((meetC c (partC d x (x.length - (n + 1)))).1, (meetC c (partC d x (x.length - (n + 1)))).2.1)).bind (lessIn d c x n) else none
def lessOut (d : Int) (x : List At) : List Ce → List Ce → Option (List Ce)
  | [], acc => some acc
  | c :: cs, acc => (lessIn d c x x.length acc).bind (lessOut d x cs)
def lessD (d : Int) (cs : List Ce) (c : Ce) : Option (List Ce) := if (mC c).2.2 = true then lessOut d (mC c).2.1 cs [] else none
theorem meetC_ok {a b : Ce} (h : (meetC a b).2.2 = true) : (meetC a b).1 = a.1 ∧ isCe a.1 (meetC a b).2.1 = true := by
  unfold meetC at h ⊢
  split at h
  · rename_i hc
    rw [if_pos hc]
    unfold limN at h ⊢
    split at h
    · cases h
    · rename_i h16
      rw [if_neg h16]
      have hd := isCe_d hc.1
      have h3 : isCe a.1 b.2 = true := by rw [hc.2.2]; exact hc.2.1
      exact ⟨rfl, okCe.2 ⟨hd, by show (nrm a.1 (a.2 ++ b.2)).length ≤ 16; omega, nrm_okL hd fun y hy => by
        rcases List.mem_append.1 hy with hy | hy
        · exact isCe_a hc.1 y hy
        · exact isCe_a h3 y hy⟩⟩
  · cases h
theorem lessIn_ok {d : Int} {c : Ce} {x : List At} (hc : okC d c) : ∀ {n : Nat} {acc y : List Ce}, okCs d acc → lessIn d c x n acc = some y → okCs d y
  | 0, acc, y, ha, h => by obtain rfl := Option.some.inj h; exact ha
  | n + 1, acc, y, ha, h => by
    unfold lessIn at h
    split at h
    · rename_i hm
      obtain ⟨z, h1, h2⟩ := Option.bind_eq_some_iff.1 h
      exact lessIn_ok hc (addC_ok ((meetC_ok hm).1.trans hc.1) ha h1) h2
    · cases h
theorem lessOut_ok {d : Int} {x : List At} : ∀ {cs acc y : List Ce}, (∀ c ∈ cs, okC d c) → okCs d acc → lessOut d x cs acc = some y → okCs d y
  | [], acc, y, _, ha, h => by obtain rfl := Option.some.inj h; exact ha
  | c :: cs, acc, y, hc, ha, h => by
    obtain ⟨z, h1, h2⟩ := Option.bind_eq_some_iff.1 h
    exact lessOut_ok (fun w hw => hc w (by simp [-Bool.exists_bool, -Int.not_le, -Int.not_lt, -getElem?_pos, -List.getD_eq_getElem?_getD, hw])) (lessIn_ok (hc c (by simp [-Bool.exists_bool, -Int.not_le, -Int.not_lt, -getElem?_pos, -List.getD_eq_getElem?_getD])) ha h1) h2
theorem lessD_ok {d : Int} {cs y : List Ce} {c : Ce} (hs : okCs d cs) (h : lessD d cs c = some y) : okCs d y := by
  unfold lessD at h
  split at h
  · exact lessOut_ok hs.2 ⟨by simp [-Bool.exists_bool, -Int.not_le, -Int.not_lt, -getElem?_pos, -List.getD_eq_getElem?_getD], by simp [-Bool.exists_bool, -Int.not_le, -Int.not_lt, -getElem?_pos, -List.getD_eq_getElem?_getD]⟩ h
  · cases h
theorem l4Less (d : Int) (cs : List Ce) (c : Ce) (hc : okC d c) (hs : okCs d cs) : Cn Tryz.prog 116 [R1 d cs, C1 c.1 c.2] (RD (optR d (lessD d cs c))) hemp := by
  obtain ⟨hc1, hc2⟩ := hc
  obtain ⟨e, L⟩ := c
  simp only at hc1 hc2
  subst hc1
  have hd := isCe_d hc2
  refine Cn.of [0] mixed Tryz.func116 rfl Tryz.call116 (by kernel_rfl) rfl ?_
  simp -implicitDefEqProofs -dsimp +contextual [-Bool.exists_bool, -Int.not_le, -Int.not_lt, -getElem?_pos, -List.getD_eq_getElem?_getD, Tryz.f116]
  refine CallJ.pure (l3Normal e hd L (by have := isCe_l hc2; omega) (isCe_a hc2)) rfl (by simp [-Bool.exists_bool, -Int.not_le, -Int.not_lt, -getElem?_pos, -List.getD_eq_getElem?_getD]) ?_
  simp -implicitDefEqProofs -dsimp +contextual [-Bool.exists_bool, -Int.not_le, -Int.not_lt, -getElem?_pos, -List.getD_eq_getElem?_getD]
  have em : minC e (nrm e L) = mC (e, L) := by show _ = minD e L; rw [minD, if_pos hc2]
  have hm := l3Minimal e (nrm e L) (by have := nrm_16 e L (isCe_l hc2); omega)
  rw [em] at hm
  have ho : (mC (e, L)).2.2 = true → (mC (e, L)).1 = e ∧ isCe e (mC (e, L)).2.1 = true ∧ NF e (mC (e, L)).2.1 := minD_ok
  refine CallJ.pure hm rfl (by simp [-Bool.exists_bool, -Int.not_le, -Int.not_lt, -getElem?_pos, -List.getD_eq_getElem?_getD]) ?_
  unfold lessD
  generalize mC (e, L) = m at ho ⊢
  obtain ⟨m1, m2, m3⟩ := m
  simp only at ho ⊢
  simp -implicitDefEqProofs -dsimp +contextual [-Bool.exists_bool, -Int.not_le, -Int.not_lt, -getElem?_pos, -List.getD_eq_getElem?_getD]
  refine ⟨fun hf => ?_, fun hf => RLe.pure 2 (by simp [-Bool.exists_bool, -Int.not_le, -Int.not_lt, -getElem?_pos, -List.getD_eq_getElem?_getD, optR])⟩
  obtain ⟨rfl, o2, o3⟩ := ho hf
  have hlen := isCe_l o2
  have hx := isCe_a o2
  have e0 : (if m3 = true then lessOut m1 m2 cs [] else none) = lessOut m1 m2 cs [] := if_pos hf
  rw [e0]
  refine WP.loop mixed [0] (fun p : Nat × List Ce => ⟨tl [(2, .ptr (0, 0) 0), (4, .ptr (2, 0) 0), (6, .ptr (3, 0) 0), (8, .ptr (4, 0) 0), (9, I p.1)], hl [((0, 0), .box [I m1, Cs cs]), ((2, 0), .box [I 0, .nil]), ((3, 0), .box [I m1, As m2]), ((4, 0), .box [I m1, Cs p.2])], 5⟩) (fun p => p.1 ≤ cs.length ∧ okCs m1 p.2 ∧ lessOut m1 m2 cs [] = lessOut m1 m2 (cs.drop p.1) p.2) (fun p => cs.length - p.1) (0, []) (by kernel_rfl) ?_ ?_ ?_
  · refine Le.told [((3, 0), (13, 0)), ((4, 0), (21, 0))] ?_ ?_ ?_ <;> simp [-Bool.exists_bool, -Int.not_le, -Int.not_lt, -getElem?_pos, -List.getD_eq_getElem?_getD, setH]
  · exact ⟨Nat.zero_le _, ⟨by simp [-Bool.exists_bool, -Int.not_le, -Int.not_lt, -getElem?_pos, -List.getD_eq_getElem?_getD], by simp [-Bool.exists_bool, -Int.not_le, -Int.not_lt, -getElem?_pos, -List.getD_eq_getElem?_getD]⟩, rfl⟩
  · rintro ⟨i, acc⟩ ⟨hi, ha, he⟩
    simp only at hi ha he
    by_cases h : i < cs.length
    · have h12 := hs.1
      have hcc := hs.2 _ (nth_mem h)
      rw [nth_drop h, lessOut] at he
      simp -implicitDefEqProofs -dsimp +contextual [-Bool.exists_bool, -Int.not_le, -Int.not_lt, -getElem?_pos, -List.getD_eq_getElem?_getD, h]
      refine WP.loop mixed [0] (fun p : Nat × List Ce => ⟨tl [(2, .ptr (0, 0) 0), (4, .ptr (2, 0) 0), (6, .ptr (3, 0) 0), (8, .ptr (4, 0) 0), (9, I i), (10, I p.1)], hl [((0, 0), .box [I m1, Cs cs]), ((2, 0), .box [I 0, .nil]), ((3, 0), .box [I m1, As m2]), ((4, 0), .box [I m1, Cs p.2])], 5⟩) (fun p => p.1 ≤ m2.length ∧ okCs m1 p.2 ∧ lessOut m1 m2 cs [] = (lessIn m1 (nth cs i) m2 (m2.length - p.1) p.2).bind (lessOut m1 m2 (cs.drop (i + 1)))) (fun p => m2.length - p.1) (0, acc) (by kernel_rfl) ?_ ?_ ?_
      · refine Le.told [] ?_ ?_ ?_ <;> simp [-Bool.exists_bool, -Int.not_le, -Int.not_lt, -getElem?_pos, -List.getD_eq_getElem?_getD, setH]
      · exact ⟨Nat.zero_le _, ha, by rw [he]; rfl⟩
      · rintro ⟨k, ac⟩ ⟨hk, hac, hek⟩
        simp only at hk hac hek
        by_cases hkl : k < m2.length
        · simp -implicitDefEqProofs -dsimp +contextual [-Bool.exists_bool, -Int.not_le, -Int.not_lt, -getElem?_pos, -List.getD_eq_getElem?_getD, h, hkl]
          have hna : negAt (nth m2 k).1 (nth m2 k).2.1 (nth m2 k).2.2 = ((negA (nth m2 k)).1, (negA (nth m2 k)).2.1, (negA (nth m2 k)).2.2, true) := by rw [negAt, if_pos (hx _ (nth_mem hkl)).1]; rfl
          have hN := NegateAtom (nth m2 k)
          rw [hna] at hN
          refine CallJ.pure hN rfl (by simp [-Bool.exists_bool, -Int.not_le, -Int.not_lt, -getElem?_pos, -List.getD_eq_getElem?_getD]) ?_
          simp -implicitDefEqProofs -dsimp +contextual [-Bool.exists_bool, -Int.not_le, -Int.not_lt, -getElem?_pos, -List.getD_eq_getElem?_getD, h, hkl]
          have hmin : min k m2.length = k := by omega
          refine ⟨by omega, ⟨by omega, by omega, by simp [-Bool.exists_bool, -Int.not_le, -Int.not_lt, -getElem?_pos, -List.getD_eq_getElem?_getD, maxLen]; omega⟩, ⟨by omega, by simp [-Bool.exists_bool, -Int.not_le, -Int.not_lt, -getElem?_pos, -List.getD_eq_getElem?_getD, maxLen]; omega⟩, Quiet.of [2] (by kernel_rfl) (by simp [-Bool.exists_bool, -Int.not_le, -Int.not_lt, -getElem?_pos, -List.getD_eq_getElem?_getD, allP, offB]), Quiet.of [] (by kernel_rfl) (by simp [-Bool.exists_bool, -Int.not_le, -Int.not_lt, -getElem?_pos, -List.getD_eq_getElem?_getD, allP, offB]), ?_⟩
          have hpl : (m2.take k ++ [negA (nth m2 k)]).length = k + 1 := by simp [-Bool.exists_bool, -Int.not_le, -Int.not_lt, -getElem?_pos, -List.getD_eq_getElem?_getD]; omega
          have hpd : asD (m2.take k ++ [negA (nth m2 k)]) = asD (m2.take k) ++ [D.sl (negA (nth m2 k)).1.length ((negA (nth m2 k)).1.map (D.int IntKind.i64)), D.int IntKind.i64 (negA (nth m2 k)).2.1, D.bool (negA (nth m2 k)).2.2] := by rw [asD_append]; simp [-Bool.exists_bool, -Int.not_le, -Int.not_lt, -getElem?_pos, -List.getD_eq_getElem?_getD, asD, aD]
          have hM := MeetCells (nth cs i) (partC m1 m2 k) (by have := okC_len hcc; omega) (by show (m2.take k ++ [negA (nth m2 k)]).length ≤ 1048576; omega)
          have hmo := meetC_ok (a := nth cs i) (b := partC m1 m2 k)
          obtain ⟨n, hn⟩ : ∃ n, m2.length - k = n + 1 := ⟨m2.length - k - 1, by omega⟩
          have hkn : m2.length - (n + 1) = k := by omega
          rw [hn, lessIn, hkn] at hek
          have hkn2 : n = m2.length - (k + 1) := by omega
          generalize hgen : meetC (nth cs i) (partC m1 m2 k) = q at hM hmo hek
          obtain ⟨q1, q2, q3⟩ := q
          simp only at hmo hek
          refine CallJ.frz (t := 66) (n := k + 1) (c := dl (asD (m2.take k ++ [negA (nth m2 k)]))) (c' := asD (m2.take k ++ [negA (nth m2 k)])) (32, 0) hM (by simp [-Bool.exists_bool, -Int.not_le, -Int.not_lt, -getElem?_pos, -List.getD_eq_getElem?_getD, setH, hpd]) (dl_asDs _) (ks := [(32, 0)]) (by simp [-Bool.exists_bool, -Int.not_le, -Int.not_lt, -getElem?_pos, -List.getD_eq_getElem?_getD, lendVs, lendV, setH, partC, hpl, hmin]) (by simp [-Bool.exists_bool, -Int.not_le, -Int.not_lt, -getElem?_pos, -List.getD_eq_getElem?_getD]) ?_
          simp -implicitDefEqProofs -dsimp +contextual [-Bool.exists_bool, -Int.not_le, -Int.not_lt, -getElem?_pos, -List.getD_eq_getElem?_getD, h, hkl]
          refine ⟨Quiet.of [] (by kernel_rfl) (by simp [-Bool.exists_bool, -Int.not_le, -Int.not_lt, -getElem?_pos, -List.getD_eq_getElem?_getD, allP, offB]), Quiet.of [] (by kernel_rfl) (by simp [-Bool.exists_bool, -Int.not_le, -Int.not_lt, -getElem?_pos, -List.getD_eq_getElem?_getD, allP, offB]), fun hq => ?_, fun hq => ?_⟩
          · rw [if_pos hq] at hek
            obtain ⟨rfl, hq2⟩ := hmo hq
            rw [hcc.1] at hq2
            have hqc : okC m1 ((nth cs i).1, q2) := ⟨hcc.1, hq2⟩
            refine CallJ.pure (l4Add m1 ac ((nth cs i).1, q2) hqc hac.1) rfl (by simp [-Bool.exists_bool, -Int.not_le, -Int.not_lt, -getElem?_pos, -List.getD_eq_getElem?_getD]) ?_
            have at_ := addS_t (d := m1) (cs := ac) (c := ((nth cs i).1, q2))
            have af_ := addS_f (d := m1) (cs := ac) (c := ((nth cs i).1, q2))
            generalize addS m1 ac ((nth cs i).1, q2) = r at at_ af_ ⊢
            obtain ⟨r1, r2, r3⟩ := r
            simp only at at_ af_
            simp -implicitDefEqProofs -dsimp +contextual [-Bool.exists_bool, -Int.not_le, -Int.not_lt, -getElem?_pos, -List.getD_eq_getElem?_getD, h, hkl, hq]
            refine ⟨fun hr => ?_, fun hr => ?_⟩
            · obtain ⟨a1, rfl⟩ := at_ hr
              rw [a1, Option.bind_some, hkn2] at hek
              refine ⟨k + 1, r2, ⟨hkl, addC_ok hqc.1 hac a1, hek⟩, by omega, ?_⟩
              rw [wr (by omega) (by omega)]
              refine Le.told [] ?_ ?_ ?_ <;> simp [-Bool.exists_bool, -Int.not_le, -Int.not_lt, -getElem?_pos, -List.getD_eq_getElem?_getD]
            · rw [af_ (by simp [-Bool.exists_bool, -Int.not_le, -Int.not_lt, -getElem?_pos, -List.getD_eq_getElem?_getD, hr]), Option.bind_none, Option.bind_none] at hek
              exact RLe.pure 2 (by rw [hek]; simp [-Bool.exists_bool, -Int.not_le, -Int.not_lt, -getElem?_pos, -List.getD_eq_getElem?_getD, optR])
          · rw [if_neg (by simp [-Bool.exists_bool, -Int.not_le, -Int.not_lt, -getElem?_pos, -List.getD_eq_getElem?_getD, hq]), Option.bind_none] at hek
            exact RLe.pure 2 (by rw [hek]; simp [-Bool.exists_bool, -Int.not_le, -Int.not_lt, -getElem?_pos, -List.getD_eq_getElem?_getD, optR])
        · rw [show m2.length - k = 0 by omega, lessIn, Option.bind_some] at hek
          simp -implicitDefEqProofs -dsimp +contextual [-Bool.exists_bool, -Int.not_le, -Int.not_lt, -getElem?_pos, -List.getD_eq_getElem?_getD, h, hkl]
          refine ⟨i + 1, ac, ⟨h, hac, hek⟩, by omega, ?_⟩
          rw [wr (by omega) (by omega)]
          refine Le.told [] ?_ ?_ ?_ <;> simp [-Bool.exists_bool, -Int.not_le, -Int.not_lt, -getElem?_pos, -List.getD_eq_getElem?_getD]
    · rw [drop_nil (by omega), lessOut] at he
      simp -implicitDefEqProofs -dsimp +contextual [-Bool.exists_bool, -Int.not_le, -Int.not_lt, -getElem?_pos, -List.getD_eq_getElem?_getD, h]
      exact RLe.pure 3 (by rw [he]; simp [-Bool.exists_bool, -Int.not_le, -Int.not_lt, -getElem?_pos, -List.getD_eq_getElem?_getD, optR])
def diffGo (d : Int) : List Ce → List Ce → Option (List Ce)
  | [], acc => some acc
  | c :: cs, acc => (lessD d acc c).bind (diffGo d cs)
def diffD (d : Int) (A : List Ce) (e : Int) (B : List Ce) : Int × List Ce × Bool := if isRe d A = true ∧ isRe e B = true ∧ d = e then optR d ((neatGo A []).bind (diffGo d B)) else (0, [], false)
theorem DifferenceOf (d : Int) (A : List Ce) (e : Int) (B : List Ce) (hA : A.length ≤ 1048576) (hAc : ∀ c ∈ A, c.2.length ≤ 1048576) (hB : B.length ≤ 1048576) (hBc : ∀ c ∈ B, c.2.length ≤ 1048576) : Cn Tryz.prog 70 [R1 d A, R1 e B] (RD (diffD d A e B)) hemp := by
  refine Cn.of [0] mixed Tryz.func70 rfl Tryz.call70 (by kernel_rfl) rfl ?_
  simp -implicitDefEqProofs -dsimp +contextual [-Bool.exists_bool, -Int.not_le, -Int.not_lt, -getElem?_pos, -List.getD_eq_getElem?_getD, Tryz.f70]
  have hN := NeatRegion d A hA hAc
  by_cases h1 : isRe d A = true
  rotate_left
  · rw [neatD, if_neg h1] at hN
    rw [diffD, if_neg (by simp [-Bool.exists_bool, -Int.not_le, -Int.not_lt, -getElem?_pos, -List.getD_eq_getElem?_getD, h1])]
    refine CallJ.pure hN rfl (by simp [-Bool.exists_bool, -Int.not_le, -Int.not_lt, -getElem?_pos, -List.getD_eq_getElem?_getD]) ?_
    simp -implicitDefEqProofs -dsimp +contextual [-Bool.exists_bool, -Int.not_le, -Int.not_lt, -getElem?_pos, -List.getD_eq_getElem?_getD]
    exact RLe.pure 2 (by simp [-Bool.exists_bool, -Int.not_le, -Int.not_lt, -getElem?_pos, -List.getD_eq_getElem?_getD, csD])
  obtain ⟨hd, h12, hok⟩ := isRe_ok h1
  rw [neatD, if_pos h1] at hN
  cases hx : neatGo A [] with
  | none =>
    rw [hx] at hN
    have e0 : diffD d A e B = (0, [], false) := by
      unfold diffD
      split
      · rw [hx]; rfl
      · rfl
    rw [e0]
    refine CallJ.pure hN rfl (by simp [-Bool.exists_bool, -Int.not_le, -Int.not_lt, -getElem?_pos, -List.getD_eq_getElem?_getD]) ?_
    simp -implicitDefEqProofs -dsimp +contextual [-Bool.exists_bool, -Int.not_le, -Int.not_lt, -getElem?_pos, -List.getD_eq_getElem?_getD, optR]
    exact RLe.pure 2 (by simp [-Bool.exists_bool, -Int.not_le, -Int.not_lt, -getElem?_pos, -List.getD_eq_getElem?_getD, csD])
  | some x =>
    rw [hx] at hN
    have hxo := neatGo_ok hok ⟨by simp [-Bool.exists_bool, -Int.not_le, -Int.not_lt, -getElem?_pos, -List.getD_eq_getElem?_getD], by simp [-Bool.exists_bool, -Int.not_le, -Int.not_lt, -getElem?_pos, -List.getD_eq_getElem?_getD]⟩ hx
    refine CallJ.pure hN rfl (by simp [-Bool.exists_bool, -Int.not_le, -Int.not_lt, -getElem?_pos, -List.getD_eq_getElem?_getD]) ?_
    simp -implicitDefEqProofs -dsimp +contextual [-Bool.exists_bool, -Int.not_le, -Int.not_lt, -getElem?_pos, -List.getD_eq_getElem?_getD, optR]
    refine CallJ.pure (IsRegion e B hB hBc) rfl (by simp [-Bool.exists_bool, -Int.not_le, -Int.not_lt, -getElem?_pos, -List.getD_eq_getElem?_getD]) ?_
    simp -implicitDefEqProofs -dsimp +contextual [-Bool.exists_bool, -Int.not_le, -Int.not_lt, -getElem?_pos, -List.getD_eq_getElem?_getD, optR]
    have no : ∀ {H : Store}, ¬ (isRe d A = true ∧ isRe e B = true ∧ d = e) → RLe Tryz.prog H (V.tup [V.agg [V.d (D.int IntKind.i64 0), V.nil], V.d (D.bool false)]) (RD (diffD d A e B)) hemp := fun h => by
      rw [diffD, if_neg h]
      exact RLe.pure 2 (by simp [-Bool.exists_bool, -Int.not_le, -Int.not_lt, -getElem?_pos, -List.getD_eq_getElem?_getD, csD])
    refine ⟨fun h2 => ⟨fun h3 => ?_, fun h3 => no (fun h => h3 h.2.2)⟩, fun h2 => no (by simp [-Bool.exists_bool, -Int.not_le, -Int.not_lt, -getElem?_pos, -List.getD_eq_getElem?_getD, h2])⟩
    subst h3
    obtain ⟨_, b12, bok⟩ := isRe_ok h2
    have e0 : diffD d A d B = optR d (diffGo d B x) := by rw [diffD, if_pos ⟨h1, h2, rfl⟩, hx, Option.bind_some]
    rw [e0]
    refine WP.loop mixed [0] (fun p : Nat × List Ce => ⟨tl [(3, .ptr (1, 0) 0), (4, .ptr (2, 0) 0), (6, .ptr (3, 0) 0), (8, I p.1)], hl [((1, 0), .box [I d, Cs B]), ((2, 0), .box [I 0, .nil]), ((3, 0), .box [I d, Cs p.2])], 4⟩) (fun p => p.1 ≤ B.length ∧ okCs d p.2 ∧ diffGo d B x = diffGo d (B.drop p.1) p.2) (fun p => B.length - p.1) (0, x) (by kernel_rfl) ?_ ?_ ?_
    · refine Le.told [((3, 0), (9, 0))] ?_ ?_ ?_ <;> simp [-Bool.exists_bool, -Int.not_le, -Int.not_lt, -getElem?_pos, -List.getD_eq_getElem?_getD, setH]
    · exact ⟨Nat.zero_le _, hxo, rfl⟩
    · rintro ⟨i, acc⟩ ⟨hi, ha, he⟩
      simp only at hi ha he
      by_cases h : i < B.length
      · have hcc := bok _ (nth_mem h)
        rw [nth_drop h, diffGo] at he
        simp -implicitDefEqProofs -dsimp +contextual [-Bool.exists_bool, -Int.not_le, -Int.not_lt, -getElem?_pos, -List.getD_eq_getElem?_getD, h]
        have hL := l4Less d acc (nth B i) hcc ha
        cases hq : lessD d acc (nth B i) with
        | none =>
          rw [hq] at hL he
          refine CallJ.pure hL rfl (by simp [-Bool.exists_bool, -Int.not_le, -Int.not_lt, -getElem?_pos, -List.getD_eq_getElem?_getD]) ?_
          simp -implicitDefEqProofs -dsimp +contextual [-Bool.exists_bool, -Int.not_le, -Int.not_lt, -getElem?_pos, -List.getD_eq_getElem?_getD, h, optR]
          refine ⟨Quiet.of [] (by kernel_rfl) (by simp [-Bool.exists_bool, -Int.not_le, -Int.not_lt, -getElem?_pos, -List.getD_eq_getElem?_getD, allP, offB]), ?_⟩
          rw [Option.bind_none] at he
          exact RLe.pure 2 (by rw [he]; simp [-Bool.exists_bool, -Int.not_le, -Int.not_lt, -getElem?_pos, -List.getD_eq_getElem?_getD, optR, csD])
        | some y =>
          rw [hq, Option.bind_some] at he
          rw [hq] at hL
          refine CallJ.pure hL rfl (by simp [-Bool.exists_bool, -Int.not_le, -Int.not_lt, -getElem?_pos, -List.getD_eq_getElem?_getD]) ?_
          simp -implicitDefEqProofs -dsimp +contextual [-Bool.exists_bool, -Int.not_le, -Int.not_lt, -getElem?_pos, -List.getD_eq_getElem?_getD, h, optR]
          refine ⟨Quiet.of [] (by kernel_rfl) (by simp [-Bool.exists_bool, -Int.not_le, -Int.not_lt, -getElem?_pos, -List.getD_eq_getElem?_getD, allP, offB]), i + 1, y, ⟨h, lessD_ok ha hq, he⟩, by omega, ?_⟩
          rw [wr (by omega) (by omega)]
          refine Le.told [] ?_ ?_ ?_ <;> simp [-Bool.exists_bool, -Int.not_le, -Int.not_lt, -getElem?_pos, -List.getD_eq_getElem?_getD]
      · rw [drop_nil (by omega), diffGo] at he
        simp -implicitDefEqProofs -dsimp +contextual [-Bool.exists_bool, -Int.not_le, -Int.not_lt, -getElem?_pos, -List.getD_eq_getElem?_getD, h]
        exact RLe.pure 3 (by rw [he]; simp [-Bool.exists_bool, -Int.not_le, -Int.not_lt, -getElem?_pos, -List.getD_eq_getElem?_getD, optR])
def covR (d : Int) (A : List Ce) (e : Int) (B : List Ce) : Bool × Bool := if (diffD e B d A).2.2 = true then (decide ((diffD e B d A).2.1.length = 0), true) else (false, false)
theorem CoversRegion (d : Int) (A : List Ce) (e : Int) (B : List Ce) (hA : A.length ≤ 1048576) (hAc : ∀ c ∈ A, c.2.length ≤ 1048576) (hB : B.length ≤ 1048576) (hBc : ∀ c ∈ B, c.2.length ≤ 1048576) : Cn Tryz.prog 38 [R1 d A, R1 e B] (B2 (covR d A e B)) hemp := by
  refine Cn.of [0] mixed Tryz.func38 rfl Tryz.call38 (by kernel_rfl) rfl ?_
  simp -implicitDefEqProofs -dsimp +contextual [-Bool.exists_bool, -Int.not_le, -Int.not_lt, -getElem?_pos, -List.getD_eq_getElem?_getD, Tryz.f38]
  refine CallJ.pure (DifferenceOf e B d A hB hBc hA hAc) rfl (by simp [-Bool.exists_bool, -Int.not_le, -Int.not_lt, -getElem?_pos, -List.getD_eq_getElem?_getD]) ?_
  unfold covR
  generalize diffD e B d A = q
  obtain ⟨q1, q2, q3⟩ := q
  cases q3
  · simp -implicitDefEqProofs -dsimp +contextual [-Bool.exists_bool, -Int.not_le, -Int.not_lt, -getElem?_pos, -List.getD_eq_getElem?_getD]
    exact RLe.pure 1 (by simp [-Bool.exists_bool, -Int.not_le, -Int.not_lt, -getElem?_pos, -List.getD_eq_getElem?_getD])
  · simp -implicitDefEqProofs -dsimp +contextual [-Bool.exists_bool, -Int.not_le, -Int.not_lt, -getElem?_pos, -List.getD_eq_getElem?_getD]
    exact RLe.pure 1 (by simp [-Bool.exists_bool, -Int.not_le, -Int.not_lt, -getElem?_pos, -List.getD_eq_getElem?_getD])
end Go.Proofs.YtjknjekemolndaaGreat.ZL
namespace Go.Proofs.YtjknjekemolndaaGreat.ZL
open Go Go.Proofs.YtjknjekemolndaaGreat.Abs Go.Proofs.YtjknjekemolndaaGreat.Abs.Pl Go.RowKit Go.Proofs
set_option linter.unusedVariables false
set_option linter.unusedSimpArgs false
set_option linter.unnecessarySimpa false
set_option maxRecDepth 100000
set_option maxHeartbeats 4000000
abbrev Gc := Option (List At × List Ce)
def gRow (d : Nat) (kr ka kc : Key) : Gc → Ent
  | some (a :: T, R) => .row 26 (R.length + 1) (I d :: .ref ka (T.length + 1) :: dl (csD R))
  | some ([], R) => .row 26 (R.length + 1) (dl (csD (((d : Int), []) :: R)))
  | none => .row 26 0 []
def gS (cd : List Int) (d : Nat) (c : Cu) (n : Nat) : Gc → St
  | none => ⟨tl [(0, .ptr (0, 1) 0), (1, I d), (4, .ptr (1, 0) 0), (5, .ptr (2, 0) 0), (6, I n)], hl [((0, 1), cuE cd c), ((1, 0), .box [I 0, .nil]), ((2, 0), .box [I d, .nil])], 6⟩
  | some ([], R) => ⟨tl [(0, .ptr (0, 1) 0), (1, I d), (4, .ptr (1, 0) 0), (5, .ptr (2, 0) 0), (6, I n)], hl [((0, 1), cuE cd c), ((1, 0), .box [I 0, .nil]), ((2, 0), .box [I d, .ref (3, 0) (R.length + 1)]), ((3, 0), .row 26 (R.length + 1) (dl (csD (((d : Int), []) :: R))))], 6⟩
  | some (a :: T, R) => ⟨tl [(0, .ptr (0, 1) 0), (1, I d), (4, .ptr (1, 0) 0), (5, .ptr (2, 0) 0), (6, I n)], hl [((0, 1), cuE cd c), ((1, 0), .box [I 0, .nil]), ((2, 0), .box [I d, .ref (3, 0) (R.length + 1)]), ((3, 0), .row 26 (R.length + 1) (I d :: .ref (4, 0) (T.length + 1) :: dl (csD R))), ((4, 0), .row 66 (T.length + 1) (hd1 (5, 0) (a :: T))), ((5, 0), rI a.1)], 6⟩
def gNext (d : Nat) (L : List At) : Gc → Gc
  | none => some (L, [])
  | some (M, R) => some (M, R ++ [((d : Int), L)])
def gD (cd : List Int) (d : Nat) : Nat → Gc → Cu → Gc × Cu
  | 0, x, c => (x, c)
  | n + 1, x, c => gD cd d n (gNext d (dr3 cd d c).1 x) (dr3 cd d c).2
def gV (d : Nat) : Gc → V
  | none => .agg [I d, .nil]
  | some (L, R) => .agg [I d, .ref (1, 0) (R.length + 1)]
def gH (cd : List Int) (d : Nat) (c : Cu) : Gc → Store
  | none => cuH cd c
  | some ([], R) => hl [((0, 1), cuE cd c), ((1, 0), .row 26 (R.length + 1) (dl (csD (((d : Int), []) :: R))))]
  | some (a :: T, R) => hl [((0, 1), cuE cd c), ((1, 0), .row 26 (R.length + 1) (I d :: .ref (1, 1) (T.length + 1) :: dl (csD R))), ((1, 1), .row 66 (T.length + 1) (hd1 (1, 2) (a :: T))), ((1, 2), rI a.1)]
def gN : Gc → Nat
  | none => 0
  | some (_, R) => R.length + 1
def g4 (cd : List Int) (d : Nat) (c : Cu) : Gc × Cu := gD cd d (belowF cd 3 c).1.toNat none (belowF cd 3 c).2
theorem hdc (X : List Ce) (e : Int) (M : List At) : dl (csD (X ++ [(e, M)])) = dl (csD X ++ [D.int .i64 e]) ++ [V.d (.sl M.length (asD M))] := by
  rw [csD_append, show csD [(e, M)] = [D.int .i64 e, .sl M.length (asD M)] from rfl]
  unfold dl
  rw [List.map_append, List.map_append, List.append_assoc]
  rfl
theorem vl1 {H : Store} {inv : Key → Key} {nx : Nat} (X : List D) (v v' : V) (h : VLe H inv nx v v') : VLes H inv nx (dl X ++ [v]) (dl X ++ [v']) := VLes_app (VLes_refl_d _ _ _ _) (by simp [-Bool.exists_bool, -Int.not_le, -Int.not_lt, -getElem?_pos, -List.getD_eq_getElem?_getD, VLes, h])
theorem l4Draw (cd : List Int) (d : Nat) (c : Cu) (hd : d ≤ 4) (hc : c.1 ≤ cd.length) (h20 : cd.length ≤ 1048576) : Cm Tryz.prog 112 cA [.ptr (0, 1) 0, I d] (cuH cd c) (gV d (g4 cd d c).1) (gH cd d (g4 cd d c).2 (g4 cd d c).1) := by
  refine Cm.of [0] mixed Tryz.func112 rfl Tryz.call112 (by kernel_rfl) rfl ?_
  simp -implicitDefEqProofs -dsimp +contextual [-Bool.exists_bool, -Int.not_le, -Int.not_lt, -getElem?_pos, -List.getD_eq_getElem?_getD, Tryz.f112]
  have hb := belowF_bd cd (n := 3) c (by omega)
  have hc1 := belowF_cu cd 3 c hc
  refine callBelow 3 (0, 1) hc h20 (by simp [-Bool.exists_bool, -Int.not_le, -Int.not_lt, -getElem?_pos, -List.getD_eq_getElem?_getD, setH]) (by simp [-Bool.exists_bool, -Int.not_le, -Int.not_lt, -getElem?_pos, -List.getD_eq_getElem?_getD]) (by simp [-Bool.exists_bool, -Int.not_le, -Int.not_lt, -getElem?_pos, -List.getD_eq_getElem?_getD]) ?_
  unfold g4
  generalize belowF cd 3 c = y at *
  obtain ⟨n0, c1⟩ := y
  simp only at hb hc1 ⊢
  obtain ⟨n0, rfl⟩ : ∃ m : Nat, n0 = m := ⟨n0.toNat, by omega⟩
  simp -implicitDefEqProofs -dsimp +contextual [-Bool.exists_bool, -Int.not_le, -Int.not_lt, -getElem?_pos, -List.getD_eq_getElem?_getD]
  rw [Int.toNat_natCast]
  refine WP.loop mixed [0] (fun p : Nat × Gc × Cu => gS cd d p.2.2 p.1 p.2.1) (fun p => p.2.2.1 ≤ cd.length ∧ p.1 + gN p.2.1 = n0 ∧ gD cd d n0 none c1 = gD cd d p.1 p.2.1 p.2.2) (fun p => p.1) (n0, none, c1) (by kernel_rfl) ?_ ?_ ?_
  · refine Le.told [((2, 0), (4, 0))] ?_ ?_ ?_ <;> simp [-Bool.exists_bool, -Int.not_le, -Int.not_lt, -getElem?_pos, -List.getD_eq_getElem?_getD, setH]
  · exact ⟨hc1, rfl, rfl⟩
  · rintro ⟨n, x, c⟩ ⟨hc, hn, he⟩
    simp only at hc hn he
    cases n with
    | zero =>
      rw [gD] at he
      rw [he]
      rcases x with _ | ⟨_ | ⟨a, T⟩, R⟩
      · simp only [gS, gH]
        simp -implicitDefEqProofs -dsimp +contextual [-Bool.exists_bool, -Int.not_le, -Int.not_lt, -getElem?_pos, -List.getD_eq_getElem?_getD]
        refine RLm.toldL [] ?_ ?_ ?_ ?_ ?_
        · simp [-Bool.exists_bool, -Int.not_le, -Int.not_lt, -getElem?_pos, -List.getD_eq_getElem?_getD]
        · simp [-Bool.exists_bool, -Int.not_le, -Int.not_lt, -getElem?_pos, -List.getD_eq_getElem?_getD, gV]
        · simp [-Bool.exists_bool, -Int.not_le, -Int.not_lt, -getElem?_pos, -List.getD_eq_getElem?_getD, allKs, allK, okKey, gV]
        · simp [-Bool.exists_bool, -Int.not_le, -Int.not_lt, -getElem?_pos, -List.getD_eq_getElem?_getD, okKey, allKE, allKs, allK, cA, setH, hd1, allKs_dl]
        · simp [-Bool.exists_bool, -Int.not_le, -Int.not_lt, -getElem?_pos, -List.getD_eq_getElem?_getD]
      · simp only [gS, gH]
        simp -implicitDefEqProofs -dsimp +contextual [-Bool.exists_bool, -Int.not_le, -Int.not_lt, -getElem?_pos, -List.getD_eq_getElem?_getD]
        refine RLm.toldL [((1, 0), (3, 0))] ?_ ?_ ?_ ?_ ?_
        · simp [-Bool.exists_bool, -Int.not_le, -Int.not_lt, -getElem?_pos, -List.getD_eq_getElem?_getD]
        · simp [-Bool.exists_bool, -Int.not_le, -Int.not_lt, -getElem?_pos, -List.getD_eq_getElem?_getD, gV]
        · simp [-Bool.exists_bool, -Int.not_le, -Int.not_lt, -getElem?_pos, -List.getD_eq_getElem?_getD, allKs, allK, okKey, gV]
        · simp [-Bool.exists_bool, -Int.not_le, -Int.not_lt, -getElem?_pos, -List.getD_eq_getElem?_getD, okKey, allKE, allKs, allK, cA, setH, hd1, allKs_dl]
        · simp [-Bool.exists_bool, -Int.not_le, -Int.not_lt, -getElem?_pos, -List.getD_eq_getElem?_getD]
      · simp only [gS, gH]
        simp -implicitDefEqProofs -dsimp +contextual [-Bool.exists_bool, -Int.not_le, -Int.not_lt, -getElem?_pos, -List.getD_eq_getElem?_getD]
        refine RLm.toldL [((1, 0), (3, 0)), ((1, 1), (4, 0)), ((1, 2), (5, 0))] ?_ ?_ ?_ ?_ ?_
        · simp [-Bool.exists_bool, -Int.not_le, -Int.not_lt, -getElem?_pos, -List.getD_eq_getElem?_getD]
        · simp [-Bool.exists_bool, -Int.not_le, -Int.not_lt, -getElem?_pos, -List.getD_eq_getElem?_getD, gV]
        · simp [-Bool.exists_bool, -Int.not_le, -Int.not_lt, -getElem?_pos, -List.getD_eq_getElem?_getD, allKs, allK, okKey, gV]
        · simp [-Bool.exists_bool, -Int.not_le, -Int.not_lt, -getElem?_pos, -List.getD_eq_getElem?_getD, okKey, allKE, allKs, allK, cA, setH, hd1, allKs_dl]
        · simp [-Bool.exists_bool, -Int.not_le, -Int.not_lt, -getElem?_pos, -List.getD_eq_getElem?_getD]
    | succ n =>
      rw [gD] at he
      have hok := dr3_ok cd d c hd hc
      rcases x with _ | ⟨_ | ⟨a, T⟩, R⟩
      · simp only [gS]
        simp -implicitDefEqProofs -dsimp +contextual [-Bool.exists_bool, -Int.not_le, -Int.not_lt, -getElem?_pos, -List.getD_eq_getElem?_getD]
        refine callD3 d (0, 1) hd hc h20 (by simp [-Bool.exists_bool, -Int.not_le, -Int.not_lt, -getElem?_pos, -List.getD_eq_getElem?_getD]) (by simp [-Bool.exists_bool, -Int.not_le, -Int.not_lt, -getElem?_pos, -List.getD_eq_getElem?_getD]) (by simp [-Bool.exists_bool, -Int.not_le, -Int.not_lt, -getElem?_pos, -List.getD_eq_getElem?_getD]) (fun h => ?_) (fun b S h => ?_)
        · rw [h] at he
          generalize dr3 cd d c = y at *
          obtain ⟨L, c'⟩ := y
          simp only at h he hok
          subst h
          simp -implicitDefEqProofs -dsimp +contextual [-Bool.exists_bool, -Int.not_le, -Int.not_lt, -getElem?_pos, -List.getD_eq_getElem?_getD]
          refine ⟨Quiet.of [5] (by kernel_rfl) (by simp [-Bool.exists_bool, -Int.not_le, -Int.not_lt, -getElem?_pos, -List.getD_eq_getElem?_getD, allP, offB]), by simp [-Bool.exists_bool, -Int.not_le, -Int.not_lt, -getElem?_pos, -List.getD_eq_getElem?_getD, maxLen], Quiet.of [] (by kernel_rfl) (by simp [-Bool.exists_bool, -Int.not_le, -Int.not_lt, -getElem?_pos, -List.getD_eq_getElem?_getD, allP, offB]), n, some ([], []), c'.1, c'.2, ⟨hok.2.1, by simp [-Bool.exists_bool, -Int.not_le, -Int.not_lt, -getElem?_pos, -List.getD_eq_getElem?_getD, gN] at hn ⊢; omega, he⟩, by omega, ?_⟩
          simp only [gS]
          rw [wr (x := (n : Int)) (by omega) (by omega)]
          refine Le.told [((3, 0), (14, 0))] ?_ ?_ ?_ <;> simp [-Bool.exists_bool, -Int.not_le, -Int.not_lt, -getElem?_pos, -List.getD_eq_getElem?_getD, csD, cD, asDn, hd1]
          exact VLes_refl_d _ _ _ [D.int .i64 d, D.sl 0 []]
        · rw [h] at he
          generalize dr3 cd d c = y at *
          obtain ⟨L, c'⟩ := y
          simp only at h he hok
          subst h
          simp -implicitDefEqProofs -dsimp +contextual [-Bool.exists_bool, -Int.not_le, -Int.not_lt, -getElem?_pos, -List.getD_eq_getElem?_getD]
          refine ⟨Quiet.of [5] (by kernel_rfl) (by simp [-Bool.exists_bool, -Int.not_le, -Int.not_lt, -getElem?_pos, -List.getD_eq_getElem?_getD, allP, offB]), by simp [-Bool.exists_bool, -Int.not_le, -Int.not_lt, -getElem?_pos, -List.getD_eq_getElem?_getD, maxLen], Quiet.of [] (by kernel_rfl) (by simp [-Bool.exists_bool, -Int.not_le, -Int.not_lt, -getElem?_pos, -List.getD_eq_getElem?_getD, allP, offB]), n, some (b :: S, []), c'.1, c'.2, ⟨hok.2.1, by simp [-Bool.exists_bool, -Int.not_le, -Int.not_lt, -getElem?_pos, -List.getD_eq_getElem?_getD, gN] at hn ⊢; omega, he⟩, by omega, ?_⟩
          simp only [gS]
          rw [wr (x := (n : Int)) (by omega) (by omega)]
          refine Le.told [((3, 0), (14, 0)), ((4, 0), (12, 0)), ((5, 0), (12, 1))] ?_ ?_ ?_ <;> simp [-Bool.exists_bool, -Int.not_le, -Int.not_lt, -getElem?_pos, -List.getD_eq_getElem?_getD, hd1]
      · simp only [gS]
        simp -implicitDefEqProofs -dsimp +contextual [-Bool.exists_bool, -Int.not_le, -Int.not_lt, -getElem?_pos, -List.getD_eq_getElem?_getD]
        refine callD3 d (0, 1) hd hc h20 (by simp [-Bool.exists_bool, -Int.not_le, -Int.not_lt, -getElem?_pos, -List.getD_eq_getElem?_getD]) (by simp [-Bool.exists_bool, -Int.not_le, -Int.not_lt, -getElem?_pos, -List.getD_eq_getElem?_getD]) (by simp [-Bool.exists_bool, -Int.not_le, -Int.not_lt, -getElem?_pos, -List.getD_eq_getElem?_getD]) (fun h => ?_) (fun b S h => ?_)
        · rw [h] at he
          generalize dr3 cd d c = y at *
          obtain ⟨L, c'⟩ := y
          simp only at h he hok
          subst h
          simp -implicitDefEqProofs -dsimp +contextual [-Bool.exists_bool, -Int.not_le, -Int.not_lt, -getElem?_pos, -List.getD_eq_getElem?_getD]
          refine ⟨Quiet.of [5] (by kernel_rfl) (by simp [-Bool.exists_bool, -Int.not_le, -Int.not_lt, -getElem?_pos, -List.getD_eq_getElem?_getD, allP, offB]), ⟨by simp only [gN] at hn; omega, by simp only [gN] at hn; simp [-Bool.exists_bool, -Int.not_le, -Int.not_lt, -getElem?_pos, -List.getD_eq_getElem?_getD, maxLen]; omega⟩, Quiet.of [] (by kernel_rfl) (by simp [-Bool.exists_bool, -Int.not_le, -Int.not_lt, -getElem?_pos, -List.getD_eq_getElem?_getD, allP, offB]), Quiet.of [] (by kernel_rfl) (by simp [-Bool.exists_bool, -Int.not_le, -Int.not_lt, -getElem?_pos, -List.getD_eq_getElem?_getD, allP, offB]), n, some ([], R ++ [((d : Int), [])]), c'.1, c'.2, ⟨hok.2.1, by simp [-Bool.exists_bool, -Int.not_le, -Int.not_lt, -getElem?_pos, -List.getD_eq_getElem?_getD, gN] at hn ⊢; omega, he⟩, by omega, ?_⟩
          simp only [gS]
          rw [wr (x := (n : Int)) (by omega) (by omega)]
          refine Le.told [((3, 0), (14, 0))] ?_ ?_ ?_ <;> simp [-Bool.exists_bool, -Int.not_le, -Int.not_lt, -getElem?_pos, -List.getD_eq_getElem?_getD, csD, cD, asDn, hd1]
        · rw [h] at he
          generalize dr3 cd d c = y at *
          obtain ⟨L, c'⟩ := y
          simp only at h he hok
          subst h
          simp -implicitDefEqProofs -dsimp +contextual [-Bool.exists_bool, -Int.not_le, -Int.not_lt, -getElem?_pos, -List.getD_eq_getElem?_getD]
          refine ⟨Quiet.of [5] (by kernel_rfl) (by simp [-Bool.exists_bool, -Int.not_le, -Int.not_lt, -getElem?_pos, -List.getD_eq_getElem?_getD, allP, offB]), ⟨by simp only [gN] at hn; omega, by simp only [gN] at hn; simp [-Bool.exists_bool, -Int.not_le, -Int.not_lt, -getElem?_pos, -List.getD_eq_getElem?_getD, maxLen]; omega⟩, Quiet.of [] (by kernel_rfl) (by simp [-Bool.exists_bool, -Int.not_le, -Int.not_lt, -getElem?_pos, -List.getD_eq_getElem?_getD, allP, offB]), Quiet.of [] (by kernel_rfl) (by simp [-Bool.exists_bool, -Int.not_le, -Int.not_lt, -getElem?_pos, -List.getD_eq_getElem?_getD, allP, offB]), n, some ([], R ++ [((d : Int), b :: S)]), c'.1, c'.2, ⟨hok.2.1, by simp [-Bool.exists_bool, -Int.not_le, -Int.not_lt, -getElem?_pos, -List.getD_eq_getElem?_getD, gN] at hn ⊢; omega, he⟩, by omega, ?_⟩
          simp only [gS]
          rw [wr (x := (n : Int)) (by omega) (by omega)]
          have hrow : ∀ X : List V, X = X := fun _ => rfl
          refine Le.trans (S' := ⟨tl [(0, .ptr (0, 1) 0), (1, I d), (4, .ptr (1, 0) 0), (5, .ptr (2, 0) 0), (6, I n)], hl [((0, 1), cuE cd (c'.1, c'.2)), ((1, 0), .box [I 0, .nil]), ((2, 0), .box [I d, .ref (3, 0) (R.length + 1 + 1)]), ((3, 0), .row 26 (R.length + 1 + 1) (dl (csD (((d : Int), []) :: R)) ++ [I d, .ref (4, 0) (S.length + 1)])), ((4, 0), .row 66 (S.length + 1) (hd1 (5, 0) (b :: S))), ((5, 0), .fz b.1.length (b.1.map (D.int .i64)))], 8⟩) (Le.told [((3, 0), (14, 0)), ((4, 0), (12, 0)), ((5, 0), (12, 1))] ?_ ?_ ?_) (Le.trans (S' := ⟨tl [(0, .ptr (0, 1) 0), (1, I d), (4, .ptr (1, 0) 0), (5, .ptr (2, 0) 0), (6, I n)], hl [((0, 1), cuE cd (c'.1, c'.2)), ((1, 0), .box [I 0, .nil]), ((2, 0), .box [I d, .ref (3, 0) (R.length + 1 + 1)]), ((3, 0), .row 26 (R.length + 1 + 1) (dl (csD (((d : Int), []) :: R)) ++ [I d, .ref (4, 0) (S.length + 1)])), ((4, 0), .row 66 (S.length + 1) (dl (asD (b :: S))))], 8⟩) (Le.told [] ?_ ?_ ?_) (Le.trans (S' := ⟨tl [(0, .ptr (0, 1) 0), (1, I d), (4, .ptr (1, 0) 0), (5, .ptr (2, 0) 0), (6, I n)], hl [((0, 1), cuE cd (c'.1, c'.2)), ((1, 0), .box [I 0, .nil]), ((2, 0), .box [I d, .ref (3, 0) (R.length + 1 + 1)]), ((3, 0), .row 26 (R.length + 1 + 1) (dl (csD (((d : Int), []) :: R)) ++ [I d, .ref (4, 0) (S.length + 1)])), ((4, 0), .fz (S.length + 1) (asD (b :: S)))], 8⟩) (Le.told [] ?_ ?_ ?_) (Le.told [] ?_ ?_ ?_)))
          all_goals simp [-Bool.exists_bool, -Int.not_le, -Int.not_lt, -getElem?_pos, -List.getD_eq_getElem?_getD, hd1, asDc, csD_append]
          all_goals first
            | exact vl1 _ _ _ (by simp [-Bool.exists_bool, -Int.not_le, -Int.not_lt, -getElem?_pos, -List.getD_eq_getElem?_getD, VLe])
            | exact ⟨vl1 _ _ _ (by simp [-Bool.exists_bool, -Int.not_le, -Int.not_lt, -getElem?_pos, -List.getD_eq_getElem?_getD, VLe]), VLes_app (a := [.ref _ b.1.length, I b.2.1, B b.2.2]) (c := [V.d (D.sl b.1.length (b.1.map (D.int .i64))), V.d (D.int .i64 b.2.1), V.d (D.bool b.2.2)]) (by simp [-Bool.exists_bool, -Int.not_le, -Int.not_lt, -getElem?_pos, -List.getD_eq_getElem?_getD, VLes, VLe]) (VLes_refl_d _ _ _ _)⟩
            | (rw [show (((d : Int), ([] : List At)) :: (R ++ [((d : Int), b :: S)])) = ((((d : Int), ([] : List At)) :: R) ++ [((d : Int), b :: S)]) from rfl, hdc]; exact vl1 _ _ _ (by simp [-Bool.exists_bool, -Int.not_le, -Int.not_lt, -getElem?_pos, -List.getD_eq_getElem?_getD, VLe, asDc]))
            | (rw [← csD_append, hdc]; exact vl1 _ _ _ (by simp [-Bool.exists_bool, -Int.not_le, -Int.not_lt, -getElem?_pos, -List.getD_eq_getElem?_getD, VLe, asDc]))
      · simp only [gS]
        simp -implicitDefEqProofs -dsimp +contextual [-Bool.exists_bool, -Int.not_le, -Int.not_lt, -getElem?_pos, -List.getD_eq_getElem?_getD]
        refine callD3 d (0, 1) hd hc h20 (by simp [-Bool.exists_bool, -Int.not_le, -Int.not_lt, -getElem?_pos, -List.getD_eq_getElem?_getD]) (by simp [-Bool.exists_bool, -Int.not_le, -Int.not_lt, -getElem?_pos, -List.getD_eq_getElem?_getD]) (by simp [-Bool.exists_bool, -Int.not_le, -Int.not_lt, -getElem?_pos, -List.getD_eq_getElem?_getD]) (fun h => ?_) (fun b S h => ?_)
        · rw [h] at he
          generalize dr3 cd d c = y at *
          obtain ⟨L, c'⟩ := y
          simp only at h he hok
          subst h
          simp -implicitDefEqProofs -dsimp +contextual [-Bool.exists_bool, -Int.not_le, -Int.not_lt, -getElem?_pos, -List.getD_eq_getElem?_getD]
          refine ⟨Quiet.of [5] (by kernel_rfl) (by simp [-Bool.exists_bool, -Int.not_le, -Int.not_lt, -getElem?_pos, -List.getD_eq_getElem?_getD, allP, offB]), ⟨by simp only [gN] at hn; omega, by simp only [gN] at hn; simp [-Bool.exists_bool, -Int.not_le, -Int.not_lt, -getElem?_pos, -List.getD_eq_getElem?_getD, maxLen]; omega⟩, Quiet.of [] (by kernel_rfl) (by simp [-Bool.exists_bool, -Int.not_le, -Int.not_lt, -getElem?_pos, -List.getD_eq_getElem?_getD, allP, offB]), Quiet.of [] (by kernel_rfl) (by simp [-Bool.exists_bool, -Int.not_le, -Int.not_lt, -getElem?_pos, -List.getD_eq_getElem?_getD, allP, offB]), n, some (a :: T, R ++ [((d : Int), [])]), c'.1, c'.2, ⟨hok.2.1, by simp [-Bool.exists_bool, -Int.not_le, -Int.not_lt, -getElem?_pos, -List.getD_eq_getElem?_getD, gN] at hn ⊢; omega, he⟩, by omega, ?_⟩
          simp only [gS]
          rw [wr (x := (n : Int)) (by omega) (by omega)]
          refine Le.told [((3, 0), (14, 0))] ?_ ?_ ?_ <;> simp [-Bool.exists_bool, -Int.not_le, -Int.not_lt, -getElem?_pos, -List.getD_eq_getElem?_getD, csD, cD, asDn, hd1]
        · rw [h] at he
          generalize dr3 cd d c = y at *
          obtain ⟨L, c'⟩ := y
          simp only at h he hok
          subst h
          simp -implicitDefEqProofs -dsimp +contextual [-Bool.exists_bool, -Int.not_le, -Int.not_lt, -getElem?_pos, -List.getD_eq_getElem?_getD]
          refine ⟨Quiet.of [5] (by kernel_rfl) (by simp [-Bool.exists_bool, -Int.not_le, -Int.not_lt, -getElem?_pos, -List.getD_eq_getElem?_getD, allP, offB]), ⟨by simp only [gN] at hn; omega, by simp only [gN] at hn; simp [-Bool.exists_bool, -Int.not_le, -Int.not_lt, -getElem?_pos, -List.getD_eq_getElem?_getD, maxLen]; omega⟩, Quiet.of [] (by kernel_rfl) (by simp [-Bool.exists_bool, -Int.not_le, -Int.not_lt, -getElem?_pos, -List.getD_eq_getElem?_getD, allP, offB]), Quiet.of [] (by kernel_rfl) (by simp [-Bool.exists_bool, -Int.not_le, -Int.not_lt, -getElem?_pos, -List.getD_eq_getElem?_getD, allP, offB]), n, some (a :: T, R ++ [((d : Int), b :: S)]), c'.1, c'.2, ⟨hok.2.1, by simp [-Bool.exists_bool, -Int.not_le, -Int.not_lt, -getElem?_pos, -List.getD_eq_getElem?_getD, gN] at hn ⊢; omega, he⟩, by omega, ?_⟩
          simp only [gS]
          rw [wr (x := (n : Int)) (by omega) (by omega)]
          have hrow : ∀ X : List V, X = X := fun _ => rfl
          refine Le.trans (S' := ⟨tl [(0, .ptr (0, 1) 0), (1, I d), (4, .ptr (1, 0) 0), (5, .ptr (2, 0) 0), (6, I n)], hl [((0, 1), cuE cd (c'.1, c'.2)), ((1, 0), .box [I 0, .nil]), ((2, 0), .box [I d, .ref (3, 0) (R.length + 1 + 1)]), ((3, 0), .row 26 (R.length + 1 + 1) ((I d :: .ref (4, 0) (T.length + 1) :: dl (csD R)) ++ [I d, .ref (6, 0) (S.length + 1)])), ((4, 0), .row 66 (T.length + 1) (hd1 (5, 0) (a :: T))), ((5, 0), rI a.1), ((6, 0), .row 66 (S.length + 1) (hd1 (7, 0) (b :: S))), ((7, 0), .fz b.1.length (b.1.map (D.int .i64)))], 8⟩) (Le.told [((3, 0), (14, 0)), ((6, 0), (12, 0)), ((7, 0), (12, 1))] ?_ ?_ ?_) (Le.trans (S' := ⟨tl [(0, .ptr (0, 1) 0), (1, I d), (4, .ptr (1, 0) 0), (5, .ptr (2, 0) 0), (6, I n)], hl [((0, 1), cuE cd (c'.1, c'.2)), ((1, 0), .box [I 0, .nil]), ((2, 0), .box [I d, .ref (3, 0) (R.length + 1 + 1)]), ((3, 0), .row 26 (R.length + 1 + 1) ((I d :: .ref (4, 0) (T.length + 1) :: dl (csD R)) ++ [I d, .ref (6, 0) (S.length + 1)])), ((4, 0), .row 66 (T.length + 1) (hd1 (5, 0) (a :: T))), ((5, 0), rI a.1), ((6, 0), .row 66 (S.length + 1) (dl (asD (b :: S))))], 8⟩) (Le.told [] ?_ ?_ ?_) (Le.trans (S' := ⟨tl [(0, .ptr (0, 1) 0), (1, I d), (4, .ptr (1, 0) 0), (5, .ptr (2, 0) 0), (6, I n)], hl [((0, 1), cuE cd (c'.1, c'.2)), ((1, 0), .box [I 0, .nil]), ((2, 0), .box [I d, .ref (3, 0) (R.length + 1 + 1)]), ((3, 0), .row 26 (R.length + 1 + 1) ((I d :: .ref (4, 0) (T.length + 1) :: dl (csD R)) ++ [I d, .ref (6, 0) (S.length + 1)])), ((4, 0), .row 66 (T.length + 1) (hd1 (5, 0) (a :: T))), ((5, 0), rI a.1), ((6, 0), .fz (S.length + 1) (asD (b :: S)))], 8⟩) (Le.told [] ?_ ?_ ?_) (Le.told [] ?_ ?_ ?_)))
          all_goals simp [-Bool.exists_bool, -Int.not_le, -Int.not_lt, -getElem?_pos, -List.getD_eq_getElem?_getD, hd1, asDc, csD_append]
          all_goals first
            | exact vl1 _ _ _ (by simp [-Bool.exists_bool, -Int.not_le, -Int.not_lt, -getElem?_pos, -List.getD_eq_getElem?_getD, VLe])
            | exact ⟨vl1 _ _ _ (by simp [-Bool.exists_bool, -Int.not_le, -Int.not_lt, -getElem?_pos, -List.getD_eq_getElem?_getD, VLe]), VLes_app (a := [.ref _ b.1.length, I b.2.1, B b.2.2]) (c := [V.d (D.sl b.1.length (b.1.map (D.int .i64))), V.d (D.int .i64 b.2.1), V.d (D.bool b.2.2)]) (by simp [-Bool.exists_bool, -Int.not_le, -Int.not_lt, -getElem?_pos, -List.getD_eq_getElem?_getD, VLes, VLe]) (VLes_refl_d _ _ _ _)⟩
            | (rw [show (((d : Int), ([] : List At)) :: (R ++ [((d : Int), b :: S)])) = ((((d : Int), ([] : List At)) :: R) ++ [((d : Int), b :: S)]) from rfl, hdc]; exact vl1 _ _ _ (by simp [-Bool.exists_bool, -Int.not_le, -Int.not_lt, -getElem?_pos, -List.getD_eq_getElem?_getD, VLe, asDc]))
            | (rw [← csD_append, hdc]; exact vl1 _ _ _ (by simp [-Bool.exists_bool, -Int.not_le, -Int.not_lt, -getElem?_pos, -List.getD_eq_getElem?_getD, VLe, asDc]))
end Go.Proofs.YtjknjekemolndaaGreat.ZL
namespace Go.Proofs.YtjknjekemolndaaGreat.ZL
open Go Go.Proofs.YtjknjekemolndaaGreat.Abs Go.Proofs.YtjknjekemolndaaGreat.Abs.Pl Go.RowKit Go.Proofs
set_option linter.unusedVariables false
set_option linter.unusedSimpArgs false
set_option linter.unnecessarySimpa false
set_option maxRecDepth 100000
set_option maxHeartbeats 4000000
theorem l3SpoilP (cd : List Int) (c : Cu) (d : Int) (hc : c.1 ≤ cd.length) (h20 : cd.length ≤ 1048576) : Cm Tryz.prog 132 cA [.ptr (0, 1) 0, .agg [I d, .d (.sl 0 [])]] (cuH cd c) (C1 (sp3 cd d [] c).1.1 (sp3 cd d [] c).1.2) (cuH cd (sp3 cd d [] c).2) := by
  refine Cm.of [0] mixed Tryz.func132 rfl Tryz.call132 (by kernel_rfl) rfl ?_
  simp -implicitDefEqProofs -dsimp +contextual [-Bool.exists_bool, -Int.not_le, -Int.not_lt, -getElem?_pos, -List.getD_eq_getElem?_getD, Tryz.f132]
  have hc1 := belowF_cu cd 40 c hc
  refine callBelow 40 (0, 1) hc h20 (by simp [-Bool.exists_bool, -Int.not_le, -Int.not_lt, -getElem?_pos, -List.getD_eq_getElem?_getD]) (by simp [-Bool.exists_bool, -Int.not_le, -Int.not_lt, -getElem?_pos, -List.getD_eq_getElem?_getD]) (by simp [-Bool.exists_bool, -Int.not_le, -Int.not_lt, -getElem?_pos, -List.getD_eq_getElem?_getD]) ?_
  unfold sp3
  generalize belowF cd 40 c = y at *
  obtain ⟨x, c1⟩ := y
  simp only at hc1 ⊢
  simp -implicitDefEqProofs -dsimp +contextual [-Bool.exists_bool, -Int.not_le, -Int.not_lt, -getElem?_pos, -List.getD_eq_getElem?_getD]
  refine ⟨fun h0 => ?_, fun h0 => ⟨fun h1 => ?_, fun h1 => ⟨fun h2 => ?_, fun h2 => ?_⟩⟩⟩
  · refine callPick [-1, 5, IntKind.wrap .i64 (d + 1)] (0, 1) (by simp [-Bool.exists_bool, -Int.not_le, -Int.not_lt, -getElem?_pos, -List.getD_eq_getElem?_getD]) hc1 h20 (by simp [-Bool.exists_bool, -Int.not_le, -Int.not_lt, -getElem?_pos, -List.getD_eq_getElem?_getD, setH]) (by simp [-Bool.exists_bool, -Int.not_le, -Int.not_lt, -getElem?_pos, -List.getD_eq_getElem?_getD]) (by simp [-Bool.exists_bool, -Int.not_le, -Int.not_lt, -getElem?_pos, -List.getD_eq_getElem?_getD]) ?_
    rw [if_pos h0]
    simp -implicitDefEqProofs -dsimp +contextual [-Bool.exists_bool, -Int.not_le, -Int.not_lt, -getElem?_pos, -List.getD_eq_getElem?_getD]
    refine RLm.frzC [] 2 ?_ rfl ?_ ?_
    all_goals simp [-Bool.exists_bool, -Int.not_le, -Int.not_lt, -getElem?_pos, -List.getD_eq_getElem?_getD, setH, asDn]
  · refine RLm.frzC [] 2 ?_ rfl ?_ ?_
    all_goals simp [-Bool.exists_bool, -Int.not_le, -Int.not_lt, -getElem?_pos, -List.getD_eq_getElem?_getD, setH, asDn]
  · refine WP.loop mixed [0] (fun i : Nat => ⟨tl [(3, .ptr (1, 0) 0), (4, .ptr (2, 0) 0)], hl [((0, 1), cuE cd c1), ((1, 0), .box [I d, .d (.sl 0 [])]), ((2, 0), .box [I 0, .nil])], 3⟩) (fun i => i ≤ 0) (fun i => 0 - i) 0 (by kernel_rfl) ?_ ?_ ?_
    · refine Le.told [] ?_ ?_ ?_ <;> simp [-Bool.exists_bool, -Int.not_le, -Int.not_lt, -getElem?_pos, -List.getD_eq_getElem?_getD, setH]
    · simp [-Bool.exists_bool, -Int.not_le, -Int.not_lt, -getElem?_pos, -List.getD_eq_getElem?_getD]
    · intro i hi
      simp -implicitDefEqProofs -dsimp +contextual [-Bool.exists_bool, -Int.not_le, -Int.not_lt, -getElem?_pos, -List.getD_eq_getElem?_getD]
      refine RLm.frzC [] 2 ?_ rfl ?_ ?_
      all_goals simp [-Bool.exists_bool, -Int.not_le, -Int.not_lt, -getElem?_pos, -List.getD_eq_getElem?_getD, setH, h0, h2, asDn]
  · refine RLm.frzC [] 2 ?_ rfl ?_ ?_
    all_goals simp [-Bool.exists_bool, -Int.not_le, -Int.not_lt, -getElem?_pos, -List.getD_eq_getElem?_getD, setH, asDn]
theorem callSp3P {N nx s : Nat} {H : Store} {K : Eff → Prop} {cd : List Int} {c : Cu} (kb : Key) (d : Int) (hc : c.1 ≤ cd.length) (h20 : cd.length ≤ 1048576) (hH : H kb = some (cuE cd c)) (hs : kb.1 ≠ s) (hn : kb.1 < nx)
    (hk : K ⟨C1 (sp3 cd d [] c).1.1 (sp3 cd d [] c).1.2, [kb], [kb], up1 kb (some (cuE cd (sp3 cd d [] c).2)) noUp⟩) : CallJ Tryz.prog N nx s H 132 [.ptr kb 0, .agg [I d, .d (.sl 0 [])]] K :=
  callCu kb (l3SpoilP cd c d hc h20) (fun g => rfl) (fun _ => by simp [-Bool.exists_bool, -Int.not_le, -Int.not_lt, -getElem?_pos, -List.getD_eq_getElem?_getD, allKs, allK]) (fun g => rfl) hH hs hn hk
def gC (d : Nat) : Gc → List Ce
  | none => []
  | some (L, R) => ((d : Int), L) :: R
def sp4 (cd : List Int) (d : Nat) (x : Gc) (c : Cu) : (Int × List Ce) × Cu :=
  if (belowF cd 40 c).1 = 0 then (((pickF cd [-1, 5, IntKind.wrap .i64 ((d : Int) + 1)] (belowF cd 40 c).2).1, gC d x), (pickF cd [-1, 5, IntKind.wrap .i64 ((d : Int) + 1)] (belowF cd 40 c).2).2)
  else if (belowF cd 40 c).1 = 1 then (match x with
    | none => (((d : Int), []), (belowF cd 40 c).2)
    | some (L, R) => (((d : Int), (sp3 cd d L (belowF cd 40 c).2).1 :: R), (sp3 cd d L (belowF cd 40 c).2).2))
  else (((d : Int), gC d x), (belowF cd 40 c).2)
def qA (k : Key) : Prop := k = (0, 1) ∨ k = (0, 2) ∨ k = (0, 3) ∨ k = (0, 4)
def qV (d : Nat) : Gc → V
  | none => .agg [I d, .nil]
  | some (L, R) => .agg [I d, .ref (0, 2) (R.length + 1)]
def qH (cd : List Int) (d : Nat) (c : Cu) : Gc → Store
  | none => cuH cd c
  | some ([], R) => hl [((0, 1), cuE cd c), ((0, 2), .row 26 (R.length + 1) (dl (csD (((d : Int), []) :: R))))]
  | some (a :: T, R) => hl [((0, 1), cuE cd c), ((0, 2), .row 26 (R.length + 1) (I d :: .ref (0, 3) (T.length + 1) :: dl (csD R))), ((0, 3), .row 66 (T.length + 1) (hd1 (0, 4) (a :: T))), ((0, 4), rI a.1)]
def qAx : Gc → Key → Prop
  | none => cA
  | some ([], R) => fun k => k = (0, 1) ∨ k = (0, 2)
  | some (a :: T, R) => qA
theorem l4Spoil0 (cd : List Int) (c : Cu) (d : Nat) (hc : c.1 ≤ cd.length) (h20 : cd.length ≤ 1048576) : Cm Tryz.prog 111 cA [.ptr (0, 1) 0, qV d none] (qH cd d c none) (R1 (sp4 cd d none c).1.1 (sp4 cd d none c).1.2) (cuH cd (sp4 cd d none c).2) := by
  refine Cm.of [0] mixed Tryz.func111 rfl Tryz.call111 (by kernel_rfl) rfl ?_
  simp only [qV, qH]
  simp -implicitDefEqProofs -dsimp +contextual [-Bool.exists_bool, -Int.not_le, -Int.not_lt, -getElem?_pos, -List.getD_eq_getElem?_getD, Tryz.f111]
  have hc1 := belowF_cu cd 40 c hc
  refine callBelow 40 (0, 1) hc h20 (by simp [-Bool.exists_bool, -Int.not_le, -Int.not_lt, -getElem?_pos, -List.getD_eq_getElem?_getD, setH]) (by simp [-Bool.exists_bool, -Int.not_le, -Int.not_lt, -getElem?_pos, -List.getD_eq_getElem?_getD]) (by simp [-Bool.exists_bool, -Int.not_le, -Int.not_lt, -getElem?_pos, -List.getD_eq_getElem?_getD]) ?_
  unfold sp4
  generalize belowF cd 40 c = y at *
  obtain ⟨x, c1⟩ := y
  simp only at hc1 ⊢
  simp -implicitDefEqProofs -dsimp +contextual [-Bool.exists_bool, -Int.not_le, -Int.not_lt, -getElem?_pos, -List.getD_eq_getElem?_getD]
  refine ⟨fun h0 => ?_, fun h0 => ⟨fun h1 => ?_, fun h1 => ?_⟩⟩
  · refine callPick [-1, 5, IntKind.wrap .i64 ((d : Int) + 1)] (0, 1) (by simp [-Bool.exists_bool, -Int.not_le, -Int.not_lt, -getElem?_pos, -List.getD_eq_getElem?_getD]) hc1 h20 (by simp [-Bool.exists_bool, -Int.not_le, -Int.not_lt, -getElem?_pos, -List.getD_eq_getElem?_getD, setH]) (by simp [-Bool.exists_bool, -Int.not_le, -Int.not_lt, -getElem?_pos, -List.getD_eq_getElem?_getD]) (by simp [-Bool.exists_bool, -Int.not_le, -Int.not_lt, -getElem?_pos, -List.getD_eq_getElem?_getD]) ?_
    rw [if_pos h0]
    simp -implicitDefEqProofs -dsimp +contextual [-Bool.exists_bool, -Int.not_le, -Int.not_lt, -getElem?_pos, -List.getD_eq_getElem?_getD]
    refine RLm.frzC [] 2 ?_ rfl ?_ ?_
    all_goals simp [-Bool.exists_bool, -Int.not_le, -Int.not_lt, -getElem?_pos, -List.getD_eq_getElem?_getD, setH, gC]
  · refine RLm.frzC [] 2 ?_ rfl ?_ ?_
    all_goals simp [-Bool.exists_bool, -Int.not_le, -Int.not_lt, -getElem?_pos, -List.getD_eq_getElem?_getD, setH, gC, h0, h1]
  · refine RLm.frzC [] 2 ?_ rfl ?_ ?_
    all_goals simp [-Bool.exists_bool, -Int.not_le, -Int.not_lt, -getElem?_pos, -List.getD_eq_getElem?_getD, setH, gC, h0, h1]
theorem l4Spoil1 (cd : List Int) (c : Cu) (d : Nat) (R : List Ce) (hc : c.1 ≤ cd.length) (h20 : cd.length ≤ 1048576) : Cm Tryz.prog 111 (fun k => k = (0, 1) ∨ k = (0, 2)) [.ptr (0, 1) 0, qV d (some ([], R))] (qH cd d c (some ([], R))) (R1 (sp4 cd d (some ([], R)) c).1.1 (sp4 cd d (some ([], R)) c).1.2) (cuH cd (sp4 cd d (some ([], R)) c).2) := by
  refine Cm.of [0] mixed Tryz.func111 rfl Tryz.call111 (by kernel_rfl) rfl ?_
  simp only [qV, qH]
  simp -implicitDefEqProofs -dsimp +contextual [-Bool.exists_bool, -Int.not_le, -Int.not_lt, -getElem?_pos, -List.getD_eq_getElem?_getD, Tryz.f111]
  have hc1 := belowF_cu cd 40 c hc
  refine callBelow 40 (0, 1) hc h20 (by simp [-Bool.exists_bool, -Int.not_le, -Int.not_lt, -getElem?_pos, -List.getD_eq_getElem?_getD, setH]) (by simp [-Bool.exists_bool, -Int.not_le, -Int.not_lt, -getElem?_pos, -List.getD_eq_getElem?_getD]) (by simp [-Bool.exists_bool, -Int.not_le, -Int.not_lt, -getElem?_pos, -List.getD_eq_getElem?_getD]) ?_
  unfold sp4
  generalize belowF cd 40 c = y at *
  obtain ⟨x, c1⟩ := y
  simp only at hc1 ⊢
  simp -implicitDefEqProofs -dsimp +contextual [-Bool.exists_bool, -Int.not_le, -Int.not_lt, -getElem?_pos, -List.getD_eq_getElem?_getD, csD_cons, cD, asDn]
  refine ⟨fun h0 => ?_, fun h0 => ⟨fun h1 => ?_, fun h1 => ?_⟩⟩
  · refine callPick [-1, 5, IntKind.wrap .i64 ((d : Int) + 1)] (0, 1) (by simp [-Bool.exists_bool, -Int.not_le, -Int.not_lt, -getElem?_pos, -List.getD_eq_getElem?_getD]) hc1 h20 (by simp [-Bool.exists_bool, -Int.not_le, -Int.not_lt, -getElem?_pos, -List.getD_eq_getElem?_getD, setH]) (by simp [-Bool.exists_bool, -Int.not_le, -Int.not_lt, -getElem?_pos, -List.getD_eq_getElem?_getD]) (by simp [-Bool.exists_bool, -Int.not_le, -Int.not_lt, -getElem?_pos, -List.getD_eq_getElem?_getD]) ?_
    rw [if_pos h0]
    simp -implicitDefEqProofs -dsimp +contextual [-Bool.exists_bool, -Int.not_le, -Int.not_lt, -getElem?_pos, -List.getD_eq_getElem?_getD]
    refine RLm.frzC [(0, 2)] 3 ?_ (.inl rfl) ?_ ?_
    all_goals simp [-Bool.exists_bool, -Int.not_le, -Int.not_lt, -getElem?_pos, -List.getD_eq_getElem?_getD, setH, gC, csD_cons, cD, asDn, asDc, hd1]
  · change CallJ Tryz.prog 32 13 20 _ 132 [.ptr (0, 1) 0, .agg [I d, .d (.sl 0 [])]] _
    refine callSp3P (0, 1) d hc1 h20 (by simp [-Bool.exists_bool, -Int.not_le, -Int.not_lt, -getElem?_pos, -List.getD_eq_getElem?_getD, setH]) (by simp [-Bool.exists_bool, -Int.not_le, -Int.not_lt, -getElem?_pos, -List.getD_eq_getElem?_getD]) (by simp [-Bool.exists_bool, -Int.not_le, -Int.not_lt, -getElem?_pos, -List.getD_eq_getElem?_getD]) ?_
    simp -implicitDefEqProofs -dsimp +contextual [-Bool.exists_bool, -Int.not_le, -Int.not_lt, -getElem?_pos, -List.getD_eq_getElem?_getD]
    refine ⟨Quiet.of [3] (by kernel_rfl) (by simp [-Bool.exists_bool, -Int.not_le, -Int.not_lt, -getElem?_pos, -List.getD_eq_getElem?_getD, allP, offB]), Quiet.of [] (by kernel_rfl) (by simp [-Bool.exists_bool, -Int.not_le, -Int.not_lt, -getElem?_pos, -List.getD_eq_getElem?_getD, allP, offB]), ?_⟩
    rw [if_neg h0, if_pos h1]
    refine RLm.frzC [(0, 2)] 3 ?_ (.inl rfl) ?_ ?_
    all_goals simp [-Bool.exists_bool, -Int.not_le, -Int.not_lt, -getElem?_pos, -List.getD_eq_getElem?_getD, setH, csD_cons, cD]
  · refine RLm.frzC [(0, 2)] 3 ?_ (.inl rfl) ?_ ?_
    all_goals simp [-Bool.exists_bool, -Int.not_le, -Int.not_lt, -getElem?_pos, -List.getD_eq_getElem?_getD, setH, gC, h0, h1, csD_cons, cD, asDn, asDc, hd1]
theorem l4Spoil2 (cd : List Int) (c : Cu) (d : Nat) (a : At) (T : List At) (R : List Ce) (hT : T.length ≤ 15) (ha : a.1.length ≤ 1048576) (hc : c.1 ≤ cd.length) (h20 : cd.length ≤ 1048576) : Cm Tryz.prog 111 qA [.ptr (0, 1) 0, qV d (some (a :: T, R))] (qH cd d c (some (a :: T, R))) (R1 (sp4 cd d (some (a :: T, R)) c).1.1 (sp4 cd d (some (a :: T, R)) c).1.2) (cuH cd (sp4 cd d (some (a :: T, R)) c).2) := by
  refine Cm.of [0] mixed Tryz.func111 rfl Tryz.call111 (by kernel_rfl) rfl ?_
  simp only [qV, qH]
  simp -implicitDefEqProofs -dsimp +contextual [-Bool.exists_bool, -Int.not_le, -Int.not_lt, -getElem?_pos, -List.getD_eq_getElem?_getD, Tryz.f111]
  have hc1 := belowF_cu cd 40 c hc
  refine callBelow 40 (0, 1) hc h20 (by simp [-Bool.exists_bool, -Int.not_le, -Int.not_lt, -getElem?_pos, -List.getD_eq_getElem?_getD, setH]) (by simp [-Bool.exists_bool, -Int.not_le, -Int.not_lt, -getElem?_pos, -List.getD_eq_getElem?_getD]) (by simp [-Bool.exists_bool, -Int.not_le, -Int.not_lt, -getElem?_pos, -List.getD_eq_getElem?_getD]) ?_
  unfold sp4
  generalize belowF cd 40 c = y at *
  obtain ⟨x, c1⟩ := y
  simp only at hc1 ⊢
  simp -implicitDefEqProofs -dsimp +contextual [-Bool.exists_bool, -Int.not_le, -Int.not_lt, -getElem?_pos, -List.getD_eq_getElem?_getD, csD_cons, cD, asDn]
  refine ⟨fun h0 => ?_, fun h0 => ⟨fun h1 => ?_, fun h1 => ?_⟩⟩
  · refine callPick [-1, 5, IntKind.wrap .i64 ((d : Int) + 1)] (0, 1) (by simp [-Bool.exists_bool, -Int.not_le, -Int.not_lt, -getElem?_pos, -List.getD_eq_getElem?_getD]) hc1 h20 (by simp [-Bool.exists_bool, -Int.not_le, -Int.not_lt, -getElem?_pos, -List.getD_eq_getElem?_getD, setH]) (by simp [-Bool.exists_bool, -Int.not_le, -Int.not_lt, -getElem?_pos, -List.getD_eq_getElem?_getD]) (by simp [-Bool.exists_bool, -Int.not_le, -Int.not_lt, -getElem?_pos, -List.getD_eq_getElem?_getD]) ?_
    rw [if_pos h0]
    simp -implicitDefEqProofs -dsimp +contextual [-Bool.exists_bool, -Int.not_le, -Int.not_lt, -getElem?_pos, -List.getD_eq_getElem?_getD]
    refine RLm.frzC [(0, 2), (0, 3), (0, 4)] 4 ?_ (.inl rfl) ?_ ?_
    all_goals simp [-Bool.exists_bool, -Int.not_le, -Int.not_lt, -getElem?_pos, -List.getD_eq_getElem?_getD, setH, gC, csD_cons, cD, asDn, asDc, hd1]
  · refine callSp3 (0, 1) (0, 3) (0, 4) d a T hT ha hc1 h20 (by simp [-Bool.exists_bool, -Int.not_le, -Int.not_lt, -getElem?_pos, -List.getD_eq_getElem?_getD, setH]) (by simp [-Bool.exists_bool, -Int.not_le, -Int.not_lt, -getElem?_pos, -List.getD_eq_getElem?_getD, setH]) (by simp [-Bool.exists_bool, -Int.not_le, -Int.not_lt, -getElem?_pos, -List.getD_eq_getElem?_getD, setH]) (by simp [-Bool.exists_bool, -Int.not_le, -Int.not_lt, -getElem?_pos, -List.getD_eq_getElem?_getD]) (by simp [-Bool.exists_bool, -Int.not_le, -Int.not_lt, -getElem?_pos, -List.getD_eq_getElem?_getD]) (by simp [-Bool.exists_bool, -Int.not_le, -Int.not_lt, -getElem?_pos, -List.getD_eq_getElem?_getD]) ?_
    simp -implicitDefEqProofs -dsimp +contextual [-Bool.exists_bool, -Int.not_le, -Int.not_lt, -getElem?_pos, -List.getD_eq_getElem?_getD]
    refine ⟨Quiet.of [3] (by kernel_rfl) (by simp [-Bool.exists_bool, -Int.not_le, -Int.not_lt, -getElem?_pos, -List.getD_eq_getElem?_getD, allP, offB]), Quiet.of [] (by kernel_rfl) (by simp [-Bool.exists_bool, -Int.not_le, -Int.not_lt, -getElem?_pos, -List.getD_eq_getElem?_getD, allP, offB]), ?_⟩
    rw [if_neg h0, if_pos h1]
    refine RLm.frzC [(0, 2)] 3 ?_ (.inl rfl) ?_ ?_
    all_goals simp [-Bool.exists_bool, -Int.not_le, -Int.not_lt, -getElem?_pos, -List.getD_eq_getElem?_getD, setH, csD_cons, cD]
  · refine RLm.frzC [(0, 2), (0, 3), (0, 4)] 4 ?_ (.inl rfl) ?_ ?_
    all_goals simp [-Bool.exists_bool, -Int.not_le, -Int.not_lt, -getElem?_pos, -List.getD_eq_getElem?_getD, setH, gC, h0, h1, csD_cons, cD, asDn, asDc, hd1]
def smR (x : Int × List Ce) : Prop := x.2.length ≤ 100 ∧ ∀ c ∈ x.2, smC c
theorem gD_ok (cd : List Int) (d : Nat) (hd : d ≤ 4) : ∀ (n : Nat) (x : Gc) (c : Cu), (∀ e ∈ gC d x, smA e.2 ∧ e.2.length ≤ 7) → c.1 ≤ cd.length → (∀ e ∈ gC d (gD cd d n x c).1, smA e.2 ∧ e.2.length ≤ 7) ∧ (gD cd d n x c).2.1 ≤ cd.length ∧ (gC d (gD cd d n x c).1).length = (gC d x).length + n
  | 0, x, c, hx, hc => ⟨hx, hc, rfl⟩
  | n + 1, x, c, hx, hc => by
    have hk := dr3_ok cd d c hd hc
    have e : ∀ y, gC d (gNext d y x) = gC d x ++ [((d : Int), y)] := fun y => by
      rcases x with _ | ⟨L, R⟩
      · rfl
      · rfl
    have := gD_ok cd d hd n (gNext d (dr3 cd d c).1 x) (dr3 cd d c).2 (fun y hy => by
      rw [e] at hy
      rcases List.mem_append.1 hy with hy | hy
      · exact hx y hy
      · rw [List.mem_singleton.1 hy]; exact ⟨hk.1, hk.2.2⟩) hk.2.1
    refine ⟨this.1, this.2.1, ?_⟩
    have h3 := this.2.2
    rw [e] at h3
    simp only [List.length_append, List.length_singleton] at h3
    show (gC d (gD cd d n (gNext d (dr3 cd d c).1 x) (dr3 cd d c).2).1).length = _
    omega
theorem g4_ok (cd : List Int) (d : Nat) (hd : d ≤ 4) (c : Cu) (hc : c.1 ≤ cd.length) : (∀ e ∈ gC d (g4 cd d c).1, smA e.2 ∧ e.2.length ≤ 7) ∧ (g4 cd d c).2.1 ≤ cd.length ∧ (gC d (g4 cd d c).1).length ≤ 3 := by
  have hb := belowF_bd cd (n := 3) c (by omega)
  have := gD_ok cd d hd (belowF cd 3 c).1.toNat none (belowF cd 3 c).2 (fun e he => by simp [-Bool.exists_bool, -Int.not_le, -Int.not_lt, -getElem?_pos, -List.getD_eq_getElem?_getD, gC] at he) (belowF_cu _ _ _ hc)
  refine ⟨this.1, this.2.1, ?_⟩
  have h3 := this.2.2
  have hz : (gC d none).length = 0 := rfl
  rw [hz] at h3
  unfold g4
  omega
theorem smA_C {d : Int} {L : List At} (h : smA L) (hl : L.length ≤ 7) : smC (d, L) := ⟨by show L.length ≤ 100; omega, fun a ha => by have := h a ha; omega⟩
theorem sp4_ok (cd : List Int) (d : Nat) (x : Gc) (c : Cu) (hx : ∀ e ∈ gC d x, smA e.2 ∧ e.2.length ≤ 7) (hl : (gC d x).length ≤ 3) (hc : c.1 ≤ cd.length) : smR (sp4 cd d x c).1 ∧ (sp4 cd d x c).2.1 ≤ cd.length := by
  have h1 := belowF_cu cd 40 c hc
  have hX : smR ((d : Int), gC d x) := ⟨by show (gC d x).length ≤ 100; omega, fun e he => smA_C (hx e he).1 (hx e he).2⟩
  unfold sp4
  split
  · exact ⟨hX, pickF_cu _ _ _ h1⟩
  · split
    · rcases x with _ | ⟨L, R⟩
      · exact ⟨hX, h1⟩
      · have h0 := hx ((d : Int), L) (by simp [-Bool.exists_bool, -Int.not_le, -Int.not_lt, -getElem?_pos, -List.getD_eq_getElem?_getD, gC])
        have hs := sp3_ok cd d L _ h0.1 h0.2 h1
        refine ⟨⟨by simp only [gC, List.length_cons] at hl; show (_ :: R).length ≤ 100; simp [-Bool.exists_bool, -Int.not_le, -Int.not_lt, -getElem?_pos, -List.getD_eq_getElem?_getD]; omega, fun e he => ?_⟩, hs.2⟩
        rcases List.mem_cons.1 he with rfl | he
        · exact hs.1
        · have := hx e (by simp [-Bool.exists_bool, -Int.not_le, -Int.not_lt, -getElem?_pos, -List.getD_eq_getElem?_getD, gC, he]); exact smA_C this.1 this.2
    · exact ⟨hX, h1⟩
end Go.Proofs.YtjknjekemolndaaGreat.ZL
namespace Go.Proofs.YtjknjekemolndaaGreat.ZL
open Go Go.Proofs.YtjknjekemolndaaGreat.Abs Go.Proofs.YtjknjekemolndaaGreat.Abs.Pl Go.RowKit Go.Proofs
set_option linter.unusedVariables false
set_option linter.unusedSimpArgs false
set_option linter.unnecessarySimpa false
set_option maxRecDepth 100000
set_option maxHeartbeats 4000000
def up2 (kb : Key) (s : Nat) (e1 e2 : Ent) : Key → Option (Option Ent) := fun k => if k = (s, 0) then some (some e2) else if k = kb then some (some e1) else none
def up4 (kb : Key) (s : Nat) (e1 e2 e3 e4 : Ent) : Key → Option (Option Ent) := fun k => if k = (s, 0) then some (some e2) else if k = (s, 1) then some (some e3) else if k = (s, 2) then some (some e4) else if k = kb then some (some e1) else none
theorem app_up2 (kb : Key) (s : Nat) (e1 e2 : Ent) (H : Store) : app (up2 kb s e1 e2) H = setH (s, 0) (some e2) (setH kb (some e1) H) := by
  funext k
  unfold app up2 setH
  by_cases h1 : k = (s, 0)
  · simp only [if_pos h1]
  · by_cases h2 : k = kb
    · simp only [if_neg h1, if_pos h2]
    · simp only [if_neg h1, if_neg h2]
theorem app_up4 (kb : Key) (s : Nat) (e1 e2 e3 e4 : Ent) (H : Store) : app (up4 kb s e1 e2 e3 e4) H = setH (s, 0) (some e2) (setH (s, 1) (some e3) (setH (s, 2) (some e4) (setH kb (some e1) H))) := by
  funext k
  unfold app up4 setH
  by_cases h1 : k = (s, 0)
  · simp only [if_pos h1]
  · by_cases h2 : k = (s, 1)
    · simp only [if_neg h1, if_pos h2]
    · by_cases h3 : k = (s, 2)
      · simp only [if_neg h1, if_neg h2, if_pos h3]
      · by_cases h4 : k = kb
        · simp only [if_neg h1, if_neg h2, if_neg h3, if_pos h4]
        · simp only [if_neg h1, if_neg h2, if_neg h3, if_neg h4]
attribute [simp] app_up2 app_up4
theorem callG4 {N nx s : Nat} {H : Store} {K : Eff → Prop} {cd : List Int} {c : Cu} (d : Nat) (kb : Key) (hd : d ≤ 4) (hc : c.1 ≤ cd.length) (h20 : cd.length ≤ 1048576) (hH : H kb = some (cuE cd c)) (hs : kb.1 ≠ s) (hnx : kb.1 < nx)
    (k0 : (g4 cd d c).1 = none → K ⟨.agg [I d, .nil], [kb], [kb], up1 kb (some (cuE cd (g4 cd d c).2)) noUp⟩)
    (k1 : ∀ R, (g4 cd d c).1 = some ([], R) → K ⟨.agg [I d, .ref (s, 0) (R.length + 1)], [kb], [kb], up2 kb s (cuE cd (g4 cd d c).2) (.row 26 (R.length + 1) (dl (csD (((d : Int), []) :: R))))⟩)
    (k2 : ∀ a T R, (g4 cd d c).1 = some (a :: T, R) → K ⟨.agg [I d, .ref (s, 0) (R.length + 1)], [kb], [kb], up4 kb s (cuE cd (g4 cd d c).2) (.row 26 (R.length + 1) (I d :: .ref (s, 1) (T.length + 1) :: dl (csD R))) (.row 66 (T.length + 1) (hd1 (s, 2) (a :: T))) (rI a.1)⟩) :
    CallJ Tryz.prog N nx s H 112 [.ptr kb 0, I d] K := by
  have hm := l4Draw cd d c hd hc h20
  have base : ∀ {r : V} {Hr : Store}, Cm Tryz.prog 112 cA [.ptr (0, 1) 0, I d] (cuH cd c) r Hr → (∀ k e, Hr k = some e → k.1 < 2 ∧ (k.1 = 0 → (cuH cd c k).isSome = true)) → K ⟨mapK (gk (fun _ => kb) s) r, [kb], [kb], upMut (fun _ => kb) (fun k => if k = kb then some 0 else none) s Hr⟩ → CallJ Tryz.prog N nx s H 112 [.ptr kb 0, I d] K := fun {r Hr} hm h2 hk => by
    refine CallJ.mut (fun _ => kb) (fun k => if k = kb then some 0 else none) [kb] [] hm ?_ ?_ ?_ ?_ ?_ ?_ h2 ?_ (by simpa [-Bool.exists_bool, -Int.not_le, -Int.not_lt, -getElem?_pos, -List.getD_eq_getElem?_getD] using hk)
    · simp [-Bool.exists_bool, -Int.not_le, -Int.not_lt, -getElem?_pos, -List.getD_eq_getElem?_getD, gk]
    · simp [-Bool.exists_bool, -Int.not_le, -Int.not_lt, -getElem?_pos, -List.getD_eq_getElem?_getD, allKs, allK, cA]
    · rintro k rfl; simp [-Bool.exists_bool, -Int.not_le, -Int.not_lt, -getElem?_pos, -List.getD_eq_getElem?_getD, hH]
    · intro k e h
      simp [-Bool.exists_bool, -Int.not_le, -Int.not_lt, -getElem?_pos, -List.getD_eq_getElem?_getD] at h
      obtain ⟨rfl, rfl⟩ := h
      simp [-Bool.exists_bool, -Int.not_le, -Int.not_lt, -getElem?_pos, -List.getD_eq_getElem?_getD, hH, mapE, allKE, allKs, allK, cA]
    · intro k j h
      simp [-Bool.exists_bool, -Int.not_le, -Int.not_lt, -getElem?_pos, -List.getD_eq_getElem?_getD] at h
      obtain ⟨rfl, rfl⟩ := h
      simp [-Bool.exists_bool, -Int.not_le, -Int.not_lt, -getElem?_pos, -List.getD_eq_getElem?_getD]
    · simp [-Bool.exists_bool, -Int.not_le, -Int.not_lt, -getElem?_pos, -List.getD_eq_getElem?_getD]
    · simp [-Bool.exists_bool, -Int.not_le, -Int.not_lt, -getElem?_pos, -List.getD_eq_getElem?_getD, hH, hnx]
  generalize g4 cd d c = y at *
  obtain ⟨x, c'⟩ := y
  simp only at k0 k1 k2 hm
  rcases x with _ | ⟨_ | ⟨a, T⟩, R⟩
  · have := k0 rfl
    refine base hm ?_ ?_
    · intro k e h
      have h : cuH cd c' k = some e := h
      simp [-Bool.exists_bool, -Int.not_le, -Int.not_lt, -getElem?_pos, -List.getD_eq_getElem?_getD] at h
      obtain ⟨rfl, rfl⟩ := h
      simp [-Bool.exists_bool, -Int.not_le, -Int.not_lt, -getElem?_pos, -List.getD_eq_getElem?_getD]
    · have e : upMut (fun _ => kb) (fun k => if k = kb then some 0 else none) s (cuH cd c') = up1 kb (some (cuE cd c')) noUp := by
        funext k
        unfold upMut up1
        by_cases h1 : k = kb
        · subst h1
          rw [if_neg hs, if_pos rfl]
          simp [-Bool.exists_bool, -Int.not_le, -Int.not_lt, -getElem?_pos, -List.getD_eq_getElem?_getD, mapE]
        · rw [if_neg h1]
          simp [-Bool.exists_bool, -Int.not_le, -Int.not_lt, -getElem?_pos, -List.getD_eq_getElem?_getD, h1, noUp]
      show K ⟨_, _, _, upMut (fun _ => kb) (fun k => if k = kb then some 0 else none) s (cuH cd c')⟩
      rw [e]
      simpa [-Bool.exists_bool, -Int.not_le, -Int.not_lt, -getElem?_pos, -List.getD_eq_getElem?_getD, gk, gV] using this
  · have := k1 R rfl
    refine base hm ?_ ?_
    · intro k e h
      have h := hl_mem h
      simp [-Bool.exists_bool, -Int.not_le, -Int.not_lt, -getElem?_pos, -List.getD_eq_getElem?_getD] at h
      rcases h with ⟨rfl, rfl⟩ | ⟨rfl, rfl⟩ <;> simp [-Bool.exists_bool, -Int.not_le, -Int.not_lt, -getElem?_pos, -List.getD_eq_getElem?_getD]
    · have e : upMut (fun _ => kb) (fun k => if k = kb then some 0 else none) s (gH cd d c' (some ([], R))) = up2 kb s (cuE cd c') (.row 26 (R.length + 1) (dl (csD (((d : Int), []) :: R)))) := by
        funext k
        unfold upMut up2
        obtain ⟨a', b'⟩ := k
        split
        · rename_i hks
          simp only at hks
          subst hks
          have n1 : (a', b') ≠ kb := fun e => hs (by rw [← e])
          by_cases hb0 : b' = 0
          · subst hb0; simp [-Bool.exists_bool, -Int.not_le, -Int.not_lt, -getElem?_pos, -List.getD_eq_getElem?_getD, gH, mapE]
          · simp [-Bool.exists_bool, -Int.not_le, -Int.not_lt, -getElem?_pos, -List.getD_eq_getElem?_getD, n1, hb0, gH]
        · rename_i hks
          simp only at hks
          have e0 : ¬ (a', b') = (s, 0) := fun e => hks (by injection e)
          by_cases e2 : (a', b') = kb
          · simp only [if_neg e0, if_pos e2]; simp [-Bool.exists_bool, -Int.not_le, -Int.not_lt, -getElem?_pos, -List.getD_eq_getElem?_getD, mapE, gH]
          · simp only [if_neg e0, if_neg e2]
      show K ⟨_, _, _, upMut (fun _ => kb) (fun k => if k = kb then some 0 else none) s (gH cd d c' (some ([], R)))⟩
      rw [e]
      simpa [-Bool.exists_bool, -Int.not_le, -Int.not_lt, -getElem?_pos, -List.getD_eq_getElem?_getD, gk, gV] using this
  · have := k2 a T R rfl
    refine base hm ?_ ?_
    · intro k e h
      have h := hl_mem h
      simp [-Bool.exists_bool, -Int.not_le, -Int.not_lt, -getElem?_pos, -List.getD_eq_getElem?_getD] at h
      rcases h with ⟨rfl, rfl⟩ | ⟨rfl, rfl⟩ | ⟨rfl, rfl⟩ | ⟨rfl, rfl⟩ <;> simp [-Bool.exists_bool, -Int.not_le, -Int.not_lt, -getElem?_pos, -List.getD_eq_getElem?_getD]
    · have e : upMut (fun _ => kb) (fun k => if k = kb then some 0 else none) s (gH cd d c' (some (a :: T, R))) = up4 kb s (cuE cd c') (.row 26 (R.length + 1) (I d :: .ref (s, 1) (T.length + 1) :: dl (csD R))) (.row 66 (T.length + 1) (hd1 (s, 2) (a :: T))) (rI a.1) := by
        funext k
        unfold upMut up4
        obtain ⟨a', b'⟩ := k
        split
        · rename_i hks
          simp only at hks
          subst hks
          have n1 : (a', b') ≠ kb := fun e => hs (by rw [← e])
          by_cases hb0 : b' = 0
          · subst hb0; simp [-Bool.exists_bool, -Int.not_le, -Int.not_lt, -getElem?_pos, -List.getD_eq_getElem?_getD, gH, mapE, gk, mapL_dl]
          · by_cases hb1 : b' = 1
            · subst hb1; simp [-Bool.exists_bool, -Int.not_le, -Int.not_lt, -getElem?_pos, -List.getD_eq_getElem?_getD, gH, mapE, mapL_hd1, gk]
            · by_cases hb2 : b' = 2
              · subst hb2; simp [-Bool.exists_bool, -Int.not_le, -Int.not_lt, -getElem?_pos, -List.getD_eq_getElem?_getD, gH, mapE]
              · simp [-Bool.exists_bool, -Int.not_le, -Int.not_lt, -getElem?_pos, -List.getD_eq_getElem?_getD, n1, hb0, hb1, hb2, gH]
        · rename_i hks
          simp only at hks
          have e0 : ¬ (a', b') = (s, 0) := fun e => hks (by injection e)
          have e1 : ¬ (a', b') = (s, 1) := fun e => hks (by injection e)
          have e3 : ¬ (a', b') = (s, 2) := fun e => hks (by injection e)
          by_cases e2 : (a', b') = kb
          · simp only [if_neg e0, if_neg e1, if_neg e3, if_pos e2]; simp [-Bool.exists_bool, -Int.not_le, -Int.not_lt, -getElem?_pos, -List.getD_eq_getElem?_getD, mapE, gH]
          · simp only [if_neg e0, if_neg e1, if_neg e3, if_neg e2]
      show K ⟨_, _, _, upMut (fun _ => kb) (fun k => if k = kb then some 0 else none) s (gH cd d c' (some (a :: T, R)))⟩
      rw [e]
      simpa [-Bool.exists_bool, -Int.not_le, -Int.not_lt, -getElem?_pos, -List.getD_eq_getElem?_getD, gk, gV] using this
end Go.Proofs.YtjknjekemolndaaGreat.ZL
namespace Go.Proofs.YtjknjekemolndaaGreat.ZL
open Go Go.Proofs.YtjknjekemolndaaGreat.Abs Go.Proofs.YtjknjekemolndaaGreat.Abs.Pl Go.RowKit Go.Proofs
set_option linter.unusedVariables false
set_option linter.unusedSimpArgs false
set_option linter.unnecessarySimpa false
set_option maxRecDepth 100000
set_option maxHeartbeats 4000000
def upN (kb kr : Key) (e1 : Ent) : Key → Option (Option Ent) := fun k => if k = kb then some (some e1) else if k = kr then some none else none
def upQ (kb kr ka kc : Key) (e1 : Ent) : Key → Option (Option Ent) := fun k => if k = kb then some (some e1) else if k = kr then some none else if k = ka then some none else if k = kc then some none else none
theorem app_upN (kb kr : Key) (e1 : Ent) (H : Store) : app (upN kb kr e1) H = setH kb (some e1) (setH kr none H) := by
  funext k
  unfold app upN setH
  by_cases h1 : k = kb
  · simp only [if_pos h1]
  · by_cases h2 : k = kr
    · simp only [if_neg h1, if_pos h2]
    · simp only [if_neg h1, if_neg h2]
theorem app_upQ (kb kr ka kc : Key) (e1 : Ent) (H : Store) : app (upQ kb kr ka kc e1) H = setH kb (some e1) (setH kr none (setH ka none (setH kc none H))) := by
  funext k
  unfold app upQ setH
  by_cases h1 : k = kb
  · simp only [if_pos h1]
  · by_cases h2 : k = kr
    · simp only [if_neg h1, if_pos h2]
    · by_cases h3 : k = ka
      · simp only [if_neg h1, if_neg h2, if_pos h3]
      · by_cases h4 : k = kc
        · simp only [if_neg h1, if_neg h2, if_neg h3, if_pos h4]
        · simp only [if_neg h1, if_neg h2, if_neg h3, if_neg h4]
attribute [simp] app_upN app_upQ
theorem callS0 {N nx s : Nat} {H : Store} {K : Eff → Prop} {cd : List Int} {c : Cu} (kb : Key) (d : Nat) (hc : c.1 ≤ cd.length) (h20 : cd.length ≤ 1048576) (hH : H kb = some (cuE cd c)) (hs : kb.1 ≠ s) (hn : kb.1 < nx)
    (hk : K ⟨R1 (sp4 cd d none c).1.1 (sp4 cd d none c).1.2, [kb], [kb], up1 kb (some (cuE cd (sp4 cd d none c).2)) noUp⟩) : CallJ Tryz.prog N nx s H 111 [.ptr kb 0, .agg [I d, .nil]] K :=
  callCu kb (l4Spoil0 cd c d hc h20) (fun g => rfl) (fun _ => by simp [-Bool.exists_bool, -Int.not_le, -Int.not_lt, -getElem?_pos, -List.getD_eq_getElem?_getD, allKs, allK]) (fun g => rfl) hH hs hn hk
theorem callS1 {N nx s : Nat} {H : Store} {K : Eff → Prop} {cd : List Int} {c : Cu} (kb kr : Key) (d : Nat) (R : List Ce) (hc : c.1 ≤ cd.length) (h20 : cd.length ≤ 1048576) (hb : H kb = some (cuE cd c)) (hr : H kr = some (.row 26 (R.length + 1) (dl (csD (((d : Int), []) :: R))))) (hne : kb ≠ kr) (hs : kb.1 ≠ s ∧ kr.1 ≠ s) (hn : kb.1 < nx)
    (hk : K ⟨R1 (sp4 cd d (some ([], R)) c).1.1 (sp4 cd d (some ([], R)) c).1.2, [kb, kr], [kb, kr], upN kb kr (cuE cd (sp4 cd d (some ([], R)) c).2)⟩) : CallJ Tryz.prog N nx s H 111 [.ptr kb 0, .agg [I d, .ref kr (R.length + 1)]] K := by
  have e : upMut (fun j => if j = 0 then kb else kr) (fun k => if k = kb then some 0 else if k = kr then some 1 else none) s (cuH cd (sp4 cd d (some ([], R)) c).2) = upN kb kr (cuE cd (sp4 cd d (some ([], R)) c).2) := by
    funext k
    unfold upMut upN
    split
    · rename_i hks
      have m1 : k ≠ kb := fun e => hs.1 (by rw [← e]; exact hks)
      have m2 : k ≠ kr := fun e => hs.2 (by rw [← e]; exact hks)
      simp [-Bool.exists_bool, -Int.not_le, -Int.not_lt, -getElem?_pos, -List.getD_eq_getElem?_getD, m1, m2, hks]
    · by_cases e1 : k = kb
      · simp only [if_pos e1]; simp [-Bool.exists_bool, -Int.not_le, -Int.not_lt, -getElem?_pos, -List.getD_eq_getElem?_getD, mapE, gk]
      · by_cases e2 : k = kr
        · simp only [if_neg e1, if_pos e2]; simp [-Bool.exists_bool, -Int.not_le, -Int.not_lt, -getElem?_pos, -List.getD_eq_getElem?_getD]
        · simp only [if_neg e1, if_neg e2]
  rw [← e] at hk
  refine CallJ.mut (fun j => if j = 0 then kb else kr) (fun k => if k = kb then some 0 else if k = kr then some 1 else none) [kb, kr] [] (l4Spoil1 cd c d R hc h20) ?_ ?_ ?_ ?_ ?_ ?_ ?_ ?_ (by simpa [-Bool.exists_bool, -Int.not_le, -Int.not_lt, -getElem?_pos, -List.getD_eq_getElem?_getD] using hk)
  · simp [-Bool.exists_bool, -Int.not_le, -Int.not_lt, -getElem?_pos, -List.getD_eq_getElem?_getD, gk, qV]
  · simp [-Bool.exists_bool, -Int.not_le, -Int.not_lt, -getElem?_pos, -List.getD_eq_getElem?_getD, allKs, allK, qV]
  · rintro k (rfl | rfl)
    · simp [-Bool.exists_bool, -Int.not_le, -Int.not_lt, -getElem?_pos, -List.getD_eq_getElem?_getD, hb]
    · simp [-Bool.exists_bool, -Int.not_le, -Int.not_lt, -getElem?_pos, -List.getD_eq_getElem?_getD, hr]
  · intro k e h
    have h := hl_mem h
    simp [-Bool.exists_bool, -Int.not_le, -Int.not_lt, -getElem?_pos, -List.getD_eq_getElem?_getD] at h
    rcases h with ⟨rfl, rfl⟩ | ⟨rfl, rfl⟩
    · simp [-Bool.exists_bool, -Int.not_le, -Int.not_lt, -getElem?_pos, -List.getD_eq_getElem?_getD, hb, mapE, allKE, allKs, allK, gk]
    · simp [-Bool.exists_bool, -Int.not_le, -Int.not_lt, -getElem?_pos, -List.getD_eq_getElem?_getD, hr, mapE, allKE, allKs, allK, gk, hne.symm, allKs_dl]
  · intro k j h
    split at h
    · rename_i e
      obtain rfl := Option.some.inj h
      simp [-Bool.exists_bool, -Int.not_le, -Int.not_lt, -getElem?_pos, -List.getD_eq_getElem?_getD, e, qH]
    · split at h
      · rename_i e1 e2
        obtain rfl := Option.some.inj h
        simp [-Bool.exists_bool, -Int.not_le, -Int.not_lt, -getElem?_pos, -List.getD_eq_getElem?_getD, e2, qH]
      · cases h
  · simp [-Bool.exists_bool, -Int.not_le, -Int.not_lt, -getElem?_pos, -List.getD_eq_getElem?_getD, hne.symm]
  · intro k e h
    simp [-Bool.exists_bool, -Int.not_le, -Int.not_lt, -getElem?_pos, -List.getD_eq_getElem?_getD] at h
    obtain ⟨rfl, rfl⟩ := h
    simp [-Bool.exists_bool, -Int.not_le, -Int.not_lt, -getElem?_pos, -List.getD_eq_getElem?_getD, qH]
  · intro k hk
    simp [-Bool.exists_bool, -Int.not_le, -Int.not_lt, -getElem?_pos, -List.getD_eq_getElem?_getD] at hk
    rcases hk with rfl | rfl
    · exact ⟨by simp [-Bool.exists_bool, -Int.not_le, -Int.not_lt, -getElem?_pos, -List.getD_eq_getElem?_getD, hb], .inl hn⟩
    · exact ⟨by simp [-Bool.exists_bool, -Int.not_le, -Int.not_lt, -getElem?_pos, -List.getD_eq_getElem?_getD, hr], .inr (by simp [-Bool.exists_bool, -Int.not_le, -Int.not_lt, -getElem?_pos, -List.getD_eq_getElem?_getD, slotsL, slotsV])⟩
theorem callS2 {N nx s : Nat} {H : Store} {K : Eff → Prop} {cd : List Int} {c : Cu} (kb kr ka kc : Key) (d : Nat) (a : At) (T : List At) (R : List Ce) (hT : T.length ≤ 15) (ha : a.1.length ≤ 1048576) (hc : c.1 ≤ cd.length) (h20 : cd.length ≤ 1048576) (hb : H kb = some (cuE cd c)) (hr : H kr = some (.row 26 (R.length + 1) (I d :: .ref ka (T.length + 1) :: dl (csD R)))) (hra : H ka = some (.row 66 (T.length + 1) (hd1 kc (a :: T)))) (hcc : H kc = some (rI a.1))
    (n1 : kb ≠ kr) (n2 : kb ≠ ka) (n3 : kb ≠ kc) (n4 : kr ≠ ka) (n5 : kr ≠ kc) (n6 : ka ≠ kc) (hs : kb.1 ≠ s ∧ kr.1 ≠ s) (ea : ka.1 = kr.1) (ec : kc.1 = kr.1) (hn : kb.1 < nx)
    (hk : K ⟨R1 (sp4 cd d (some (a :: T, R)) c).1.1 (sp4 cd d (some (a :: T, R)) c).1.2, [kb, kr, ka, kc], [kb, kr, ka, kc], upQ kb kr ka kc (cuE cd (sp4 cd d (some (a :: T, R)) c).2)⟩) : CallJ Tryz.prog N nx s H 111 [.ptr kb 0, .agg [I d, .ref kr (R.length + 1)]] K := by
  have e : upMut (fun j => if j = 0 then kb else if j = 1 then kr else if j = 2 then ka else kc) (fun k => if k = kb then some 0 else if k = kr then some 1 else if k = ka then some 2 else if k = kc then some 3 else none) s (cuH cd (sp4 cd d (some (a :: T, R)) c).2) = upQ kb kr ka kc (cuE cd (sp4 cd d (some (a :: T, R)) c).2) := by
    funext k
    unfold upMut upQ
    split
    · rename_i hks
      have m1 : k ≠ kb := fun e => hs.1 (by rw [← e]; exact hks)
      have m2 : k ≠ kr := fun e => hs.2 (by rw [← e]; exact hks)
      have m3 : k ≠ ka := fun e => hs.2 (by rw [← ea, ← e]; exact hks)
      have m4 : k ≠ kc := fun e => hs.2 (by rw [← ec, ← e]; exact hks)
      simp [-Bool.exists_bool, -Int.not_le, -Int.not_lt, -getElem?_pos, -List.getD_eq_getElem?_getD, m1, m2, m3, m4, hks]
    · by_cases e1 : k = kb
      · simp only [if_pos e1]; simp [-Bool.exists_bool, -Int.not_le, -Int.not_lt, -getElem?_pos, -List.getD_eq_getElem?_getD, mapE, gk]
      · by_cases e2 : k = kr
        · simp only [if_neg e1, if_pos e2]; simp [-Bool.exists_bool, -Int.not_le, -Int.not_lt, -getElem?_pos, -List.getD_eq_getElem?_getD]
        · by_cases e3 : k = ka
          · simp only [if_neg e1, if_neg e2, if_pos e3]; simp [-Bool.exists_bool, -Int.not_le, -Int.not_lt, -getElem?_pos, -List.getD_eq_getElem?_getD]
          · by_cases e4 : k = kc
            · simp only [if_neg e1, if_neg e2, if_neg e3, if_pos e4]; simp [-Bool.exists_bool, -Int.not_le, -Int.not_lt, -getElem?_pos, -List.getD_eq_getElem?_getD]
            · simp only [if_neg e1, if_neg e2, if_neg e3, if_neg e4]
  rw [← e] at hk
  refine CallJ.mut (fun j => if j = 0 then kb else if j = 1 then kr else if j = 2 then ka else kc) (fun k => if k = kb then some 0 else if k = kr then some 1 else if k = ka then some 2 else if k = kc then some 3 else none) [kb, kr, ka, kc] [] (l4Spoil2 cd c d a T R hT ha hc h20) ?_ ?_ ?_ ?_ ?_ ?_ ?_ ?_ (by simpa [-Bool.exists_bool, -Int.not_le, -Int.not_lt, -getElem?_pos, -List.getD_eq_getElem?_getD] using hk)
  · simp [-Bool.exists_bool, -Int.not_le, -Int.not_lt, -getElem?_pos, -List.getD_eq_getElem?_getD, gk, qV]
  · simp [-Bool.exists_bool, -Int.not_le, -Int.not_lt, -getElem?_pos, -List.getD_eq_getElem?_getD, allKs, allK, qA, qV]
  · rintro k (rfl | rfl | rfl | rfl)
    · simp [-Bool.exists_bool, -Int.not_le, -Int.not_lt, -getElem?_pos, -List.getD_eq_getElem?_getD, hb]
    · simp [-Bool.exists_bool, -Int.not_le, -Int.not_lt, -getElem?_pos, -List.getD_eq_getElem?_getD, hr]
    · simp [-Bool.exists_bool, -Int.not_le, -Int.not_lt, -getElem?_pos, -List.getD_eq_getElem?_getD, hra]
    · simp [-Bool.exists_bool, -Int.not_le, -Int.not_lt, -getElem?_pos, -List.getD_eq_getElem?_getD, hcc]
  · intro k e h
    have h := hl_mem h
    simp [-Bool.exists_bool, -Int.not_le, -Int.not_lt, -getElem?_pos, -List.getD_eq_getElem?_getD] at h
    rcases h with ⟨rfl, rfl⟩ | ⟨rfl, rfl⟩ | ⟨rfl, rfl⟩ | ⟨rfl, rfl⟩
    · simp [-Bool.exists_bool, -Int.not_le, -Int.not_lt, -getElem?_pos, -List.getD_eq_getElem?_getD, qA, hb, mapE, allKE, allKs, allK, gk]
    · simp [-Bool.exists_bool, -Int.not_le, -Int.not_lt, -getElem?_pos, -List.getD_eq_getElem?_getD, qA, hr, mapE, allKE, allKs, allK, gk, n1.symm, mapL_dl, allKs_dl]
    · simp [-Bool.exists_bool, -Int.not_le, -Int.not_lt, -getElem?_pos, -List.getD_eq_getElem?_getD, qA, hra, mapE, allKE, allKs, allK, gk, n2.symm, n4.symm, mapL_hd1, hd1, allKs_dl]
    · simp [-Bool.exists_bool, -Int.not_le, -Int.not_lt, -getElem?_pos, -List.getD_eq_getElem?_getD, qA, hcc, mapE, allKE, allKs, allK, gk, n3.symm, n5.symm, n6.symm]
  · intro k j h
    split at h
    · rename_i e
      obtain rfl := Option.some.inj h
      simp [-Bool.exists_bool, -Int.not_le, -Int.not_lt, -getElem?_pos, -List.getD_eq_getElem?_getD, e, qH]
    · split at h
      · rename_i e1 e2
        obtain rfl := Option.some.inj h
        simp [-Bool.exists_bool, -Int.not_le, -Int.not_lt, -getElem?_pos, -List.getD_eq_getElem?_getD, e2, qH]
      · split at h
        · rename_i e1 e2 e3
          obtain rfl := Option.some.inj h
          simp [-Bool.exists_bool, -Int.not_le, -Int.not_lt, -getElem?_pos, -List.getD_eq_getElem?_getD, e3, qH]
        · split at h
          · rename_i e1 e2 e3 e4
            obtain rfl := Option.some.inj h
            simp [-Bool.exists_bool, -Int.not_le, -Int.not_lt, -getElem?_pos, -List.getD_eq_getElem?_getD, e4, qH]
          · cases h
  · simp [-Bool.exists_bool, -Int.not_le, -Int.not_lt, -getElem?_pos, -List.getD_eq_getElem?_getD, n1.symm, n2.symm, n3.symm, n4.symm, n5.symm, n6.symm]
  · intro k e h
    simp [-Bool.exists_bool, -Int.not_le, -Int.not_lt, -getElem?_pos, -List.getD_eq_getElem?_getD] at h
    obtain ⟨rfl, rfl⟩ := h
    simp [-Bool.exists_bool, -Int.not_le, -Int.not_lt, -getElem?_pos, -List.getD_eq_getElem?_getD, qH]
  · intro k hk
    simp [-Bool.exists_bool, -Int.not_le, -Int.not_lt, -getElem?_pos, -List.getD_eq_getElem?_getD] at hk
    rcases hk with rfl | rfl | rfl | rfl
    · exact ⟨by simp [-Bool.exists_bool, -Int.not_le, -Int.not_lt, -getElem?_pos, -List.getD_eq_getElem?_getD, hb], .inl hn⟩
    · exact ⟨by simp [-Bool.exists_bool, -Int.not_le, -Int.not_lt, -getElem?_pos, -List.getD_eq_getElem?_getD, hr], .inr (by simp [-Bool.exists_bool, -Int.not_le, -Int.not_lt, -getElem?_pos, -List.getD_eq_getElem?_getD, slotsL, slotsV])⟩
    · exact ⟨by simp [-Bool.exists_bool, -Int.not_le, -Int.not_lt, -getElem?_pos, -List.getD_eq_getElem?_getD, hra], .inr (by rw [ea]; simp [-Bool.exists_bool, -Int.not_le, -Int.not_lt, -getElem?_pos, -List.getD_eq_getElem?_getD, slotsL, slotsV])⟩
    · exact ⟨by simp [-Bool.exists_bool, -Int.not_le, -Int.not_lt, -getElem?_pos, -List.getD_eq_getElem?_getD, hcc], .inr (by rw [ec]; simp [-Bool.exists_bool, -Int.not_le, -Int.not_lt, -getElem?_pos, -List.getD_eq_getElem?_getD, slotsL, slotsV])⟩
end Go.Proofs.YtjknjekemolndaaGreat.ZL
namespace Go.Proofs.YtjknjekemolndaaGreat.ZL
open Go Go.Proofs.YtjknjekemolndaaGreat.Abs Go.Proofs.YtjknjekemolndaaGreat.Abs.Pl Go.RowKit Go.Proofs
set_option linter.unusedVariables false
set_option linter.unusedSimpArgs false
set_option linter.unnecessarySimpa false
set_option maxRecDepth 100000
set_option maxHeartbeats 4000000
def rmL : List Int := [0, 1, 1, 2, 2, 3]
def anR (cd : List Int) (c : Cu) : (Int × List Ce) × Cu :=
  sp4 cd (pickF cd rmL c).1.toNat (g4 cd (pickF cd rmL c).1.toNat (pickF cd rmL c).2).1 (g4 cd (pickF cd rmL c).1.toNat (pickF cd rmL c).2).2
theorem rm_bd (cd : List Int) (c : Cu) : 0 ≤ (pickF cd rmL c).1 ∧ (pickF cd rmL c).1 ≤ 3 := by
  have := pickF_mem cd rmL c (by simp [-Bool.exists_bool, -Int.not_le, -Int.not_lt, -getElem?_pos, -List.getD_eq_getElem?_getD, rmL])
  generalize (pickF cd rmL c).1 = x at *
  simp [-Bool.exists_bool, -Int.not_le, -Int.not_lt, -getElem?_pos, -List.getD_eq_getElem?_getD, rmL] at this
  omega
theorem anR_ok (cd : List Int) (c : Cu) (hc : c.1 ≤ cd.length) : smR (anR cd c).1 ∧ (anR cd c).2.1 ≤ cd.length := by
  have hb := rm_bd cd c
  have h := g4_ok cd (pickF cd rmL c).1.toNat (by omega) (pickF cd rmL c).2 (pickF_cu _ _ _ hc)
  exact sp4_ok cd _ _ _ h.1 h.2.2 h.2.1
theorem l4Any (cd : List Int) (c : Cu) (hc : c.1 ≤ cd.length) (h20 : cd.length ≤ 1048576) : Cm Tryz.prog 64 cA [.ptr (0, 1) 0] (cuH cd c) (R1 (anR cd c).1.1 (anR cd c).1.2) (cuH cd (anR cd c).2) := by
  refine Cm.of [] mixed Tryz.func64 rfl Tryz.call64 (by kernel_rfl) rfl ?_
  simp -implicitDefEqProofs -dsimp +contextual [-Bool.exists_bool, -Int.not_le, -Int.not_lt, -getElem?_pos, -List.getD_eq_getElem?_getD, Tryz.f64]
  have hc1 := pickF_cu cd rmL c hc
  have hb := rm_bd cd c
  have hg := g4_ok cd (pickF cd rmL c).1.toNat (by omega) (pickF cd rmL c).2 hc1
  refine callPick rmL (0, 1) (by simp [-Bool.exists_bool, -Int.not_le, -Int.not_lt, -getElem?_pos, -List.getD_eq_getElem?_getD, rmL]) hc h20 (by simp [-Bool.exists_bool, -Int.not_le, -Int.not_lt, -getElem?_pos, -List.getD_eq_getElem?_getD, setH]) (by simp [-Bool.exists_bool, -Int.not_le, -Int.not_lt, -getElem?_pos, -List.getD_eq_getElem?_getD]) (by simp [-Bool.exists_bool, -Int.not_le, -Int.not_lt, -getElem?_pos, -List.getD_eq_getElem?_getD]) ?_
  unfold anR
  generalize pickF cd rmL c = y at *
  obtain ⟨d, c1⟩ := y
  simp only at hc1 hb hg ⊢
  obtain ⟨d, rfl⟩ : ∃ n : Nat, d = n := ⟨d.toNat, by omega⟩
  rw [Int.toNat_natCast] at hg ⊢
  simp -implicitDefEqProofs -dsimp +contextual [-Bool.exists_bool, -Int.not_le, -Int.not_lt, -getElem?_pos, -List.getD_eq_getElem?_getD]
  refine callG4 d (0, 1) (by omega) hc1 h20 (by simp [-Bool.exists_bool, -Int.not_le, -Int.not_lt, -getElem?_pos, -List.getD_eq_getElem?_getD, setH]) (by simp [-Bool.exists_bool, -Int.not_le, -Int.not_lt, -getElem?_pos, -List.getD_eq_getElem?_getD]) (by simp [-Bool.exists_bool, -Int.not_le, -Int.not_lt, -getElem?_pos, -List.getD_eq_getElem?_getD]) (fun h => ?_) (fun R h => ?_) (fun a T R h => ?_)
  · generalize g4 cd d c1 = y at *
    obtain ⟨x, c2⟩ := y
    simp only at hg h ⊢
    subst h
    simp -implicitDefEqProofs -dsimp +contextual [-Bool.exists_bool, -Int.not_le, -Int.not_lt, -getElem?_pos, -List.getD_eq_getElem?_getD]
    refine callS0 (0, 1) d hg.2.1 h20 (by simp [-Bool.exists_bool, -Int.not_le, -Int.not_lt, -getElem?_pos, -List.getD_eq_getElem?_getD, setH]) (by simp [-Bool.exists_bool, -Int.not_le, -Int.not_lt, -getElem?_pos, -List.getD_eq_getElem?_getD]) (by simp [-Bool.exists_bool, -Int.not_le, -Int.not_lt, -getElem?_pos, -List.getD_eq_getElem?_getD]) ?_
    simp -implicitDefEqProofs -dsimp +contextual [-Bool.exists_bool, -Int.not_le, -Int.not_lt, -getElem?_pos, -List.getD_eq_getElem?_getD]
    refine RLm.frzC [] 2 ?_ rfl ?_ ?_
    all_goals simp [-Bool.exists_bool, -Int.not_le, -Int.not_lt, -getElem?_pos, -List.getD_eq_getElem?_getD, setH]
  · generalize g4 cd d c1 = y at *
    obtain ⟨x, c2⟩ := y
    simp only at hg h ⊢
    subst h
    simp -implicitDefEqProofs -dsimp +contextual [-Bool.exists_bool, -Int.not_le, -Int.not_lt, -getElem?_pos, -List.getD_eq_getElem?_getD]
    refine callS1 (0, 1) (7, 0) d R hg.2.1 h20 (by simp [-Bool.exists_bool, -Int.not_le, -Int.not_lt, -getElem?_pos, -List.getD_eq_getElem?_getD, setH]) (by simp [-Bool.exists_bool, -Int.not_le, -Int.not_lt, -getElem?_pos, -List.getD_eq_getElem?_getD, setH]) (by simp [-Bool.exists_bool, -Int.not_le, -Int.not_lt, -getElem?_pos, -List.getD_eq_getElem?_getD]) (by simp [-Bool.exists_bool, -Int.not_le, -Int.not_lt, -getElem?_pos, -List.getD_eq_getElem?_getD]) (by simp [-Bool.exists_bool, -Int.not_le, -Int.not_lt, -getElem?_pos, -List.getD_eq_getElem?_getD]) ?_
    simp -implicitDefEqProofs -dsimp +contextual [-Bool.exists_bool, -Int.not_le, -Int.not_lt, -getElem?_pos, -List.getD_eq_getElem?_getD]
    refine RLm.frzC [] 2 ?_ rfl ?_ ?_
    all_goals simp [-Bool.exists_bool, -Int.not_le, -Int.not_lt, -getElem?_pos, -List.getD_eq_getElem?_getD, setH]
  · generalize g4 cd d c1 = y at *
    obtain ⟨x, c2⟩ := y
    simp only at hg h ⊢
    subst h
    have h7 := hg.1 ((d : Int), a :: T) (by simp [-Bool.exists_bool, -Int.not_le, -Int.not_lt, -getElem?_pos, -List.getD_eq_getElem?_getD, gC])
    have hT := h7.2
    simp only [List.length_cons] at hT
    have ha := h7.1 a (by simp [-Bool.exists_bool, -Int.not_le, -Int.not_lt, -getElem?_pos, -List.getD_eq_getElem?_getD])
    simp -implicitDefEqProofs -dsimp +contextual [-Bool.exists_bool, -Int.not_le, -Int.not_lt, -getElem?_pos, -List.getD_eq_getElem?_getD]
    refine callS2 (0, 1) (7, 0) (7, 1) (7, 2) d a T R (by omega) (by omega) hg.2.1 h20 (by simp [-Bool.exists_bool, -Int.not_le, -Int.not_lt, -getElem?_pos, -List.getD_eq_getElem?_getD, setH]) (by simp [-Bool.exists_bool, -Int.not_le, -Int.not_lt, -getElem?_pos, -List.getD_eq_getElem?_getD, setH]) (by simp [-Bool.exists_bool, -Int.not_le, -Int.not_lt, -getElem?_pos, -List.getD_eq_getElem?_getD, setH]) (by simp [-Bool.exists_bool, -Int.not_le, -Int.not_lt, -getElem?_pos, -List.getD_eq_getElem?_getD, setH]) (by simp [-Bool.exists_bool, -Int.not_le, -Int.not_lt, -getElem?_pos, -List.getD_eq_getElem?_getD]) (by simp [-Bool.exists_bool, -Int.not_le, -Int.not_lt, -getElem?_pos, -List.getD_eq_getElem?_getD]) (by simp [-Bool.exists_bool, -Int.not_le, -Int.not_lt, -getElem?_pos, -List.getD_eq_getElem?_getD]) (by simp [-Bool.exists_bool, -Int.not_le, -Int.not_lt, -getElem?_pos, -List.getD_eq_getElem?_getD]) (by simp [-Bool.exists_bool, -Int.not_le, -Int.not_lt, -getElem?_pos, -List.getD_eq_getElem?_getD]) (by simp [-Bool.exists_bool, -Int.not_le, -Int.not_lt, -getElem?_pos, -List.getD_eq_getElem?_getD]) (by simp [-Bool.exists_bool, -Int.not_le, -Int.not_lt, -getElem?_pos, -List.getD_eq_getElem?_getD]) rfl rfl (by simp [-Bool.exists_bool, -Int.not_le, -Int.not_lt, -getElem?_pos, -List.getD_eq_getElem?_getD]) ?_
    simp -implicitDefEqProofs -dsimp +contextual [-Bool.exists_bool, -Int.not_le, -Int.not_lt, -getElem?_pos, -List.getD_eq_getElem?_getD]
    refine RLm.frzC [] 2 ?_ rfl ?_ ?_
    all_goals simp [-Bool.exists_bool, -Int.not_le, -Int.not_lt, -getElem?_pos, -List.getD_eq_getElem?_getD, setH]
theorem callCu3 {N nx s f : Nat} {H : Store} {K : Eff → Prop} {cd : List Int} {c c' : Cu} {r : V} {vs : List V} (kb : Key) (h : Cm Tryz.prog f cA (.ptr (0, 1) 0 :: vs) (cuH cd c) r (cuH cd c')) (hv : ∀ g : Key → Key, mapL g vs = vs) (hvk : ∀ p : Key → Prop, allKs p vs) (hr : ∀ g : Key → Key, mapK g r = r)
    (hH : H kb = some (cuE cd c)) (hs : kb.1 ≠ s) (hk : K ⟨r, [kb], [kb], up1 kb (some (cuE cd c')) noUp⟩) : CallJ Tryz.prog N nx s H f (.ptr kb 0 :: vs) K := by
  have hup : upMut (fun _ => kb) (fun k => if k = kb then some 0 else none) s (cuH cd c') = up1 kb (some (cuE cd c')) noUp := by
    funext k
    unfold upMut up1
    by_cases h1 : k = kb
    · subst h1
      rw [if_neg hs, if_pos rfl]
      simp [-Bool.exists_bool, -Int.not_le, -Int.not_lt, -getElem?_pos, -List.getD_eq_getElem?_getD, mapE]
    · rw [if_neg h1]
      simp [-Bool.exists_bool, -Int.not_le, -Int.not_lt, -getElem?_pos, -List.getD_eq_getElem?_getD, h1, noUp]
  rw [← hup] at hk
  refine CallJ.mut (fun _ => kb) (fun k => if k = kb then some 0 else none) [kb] [] h ?_ ?_ ?_ ?_ ?_ ?_ ?_ ?_ (by rw [hr]; simpa [-Bool.exists_bool, -Int.not_le, -Int.not_lt, -getElem?_pos, -List.getD_eq_getElem?_getD] using hk)
  · simp [-Bool.exists_bool, -Int.not_le, -Int.not_lt, -getElem?_pos, -List.getD_eq_getElem?_getD, gk, hv]
  · simp [-Bool.exists_bool, -Int.not_le, -Int.not_lt, -getElem?_pos, -List.getD_eq_getElem?_getD, allKs, allK, hvk, cA]
  · rintro k rfl; simp [-Bool.exists_bool, -Int.not_le, -Int.not_lt, -getElem?_pos, -List.getD_eq_getElem?_getD, hH]
  · intro k e h
    simp [-Bool.exists_bool, -Int.not_le, -Int.not_lt, -getElem?_pos, -List.getD_eq_getElem?_getD] at h
    obtain ⟨rfl, rfl⟩ := h
    simp [-Bool.exists_bool, -Int.not_le, -Int.not_lt, -getElem?_pos, -List.getD_eq_getElem?_getD, hH, mapE, allKE, allKs, allK, cA]
  · intro k j h
    simp [-Bool.exists_bool, -Int.not_le, -Int.not_lt, -getElem?_pos, -List.getD_eq_getElem?_getD] at h
    obtain ⟨rfl, rfl⟩ := h
    simp [-Bool.exists_bool, -Int.not_le, -Int.not_lt, -getElem?_pos, -List.getD_eq_getElem?_getD]
  · simp [-Bool.exists_bool, -Int.not_le, -Int.not_lt, -getElem?_pos, -List.getD_eq_getElem?_getD]
  · intro k e h
    simp [-Bool.exists_bool, -Int.not_le, -Int.not_lt, -getElem?_pos, -List.getD_eq_getElem?_getD] at h
    obtain ⟨rfl, rfl⟩ := h
    simp [-Bool.exists_bool, -Int.not_le, -Int.not_lt, -getElem?_pos, -List.getD_eq_getElem?_getD]
  · simp [-Bool.exists_bool, -Int.not_le, -Int.not_lt, -getElem?_pos, -List.getD_eq_getElem?_getD, hH, slotsL, slotsV]
theorem DrawSplitRegion (cd : List Int) (h20 : cd.length ≤ 1048576) : Cn Tryz.prog 20 [Bs cd] (R1 (anR cd (newC cd)).1.1 (anR cd (newC cd)).1.2) hemp := by
  refine Cn.of [] mixed Tryz.func20 rfl Tryz.call20 (by kernel_rfl) rfl ?_
  simp -implicitDefEqProofs -dsimp +contextual [-Bool.exists_bool, -Int.not_le, -Int.not_lt, -getElem?_pos, -List.getD_eq_getElem?_getD, Tryz.f20]
  have hN := l1New cd h20
  change Cn Tryz.prog 65 [Bs cd] (.ptr (0, 0) 0) (hl [((0, 0), cuE cd (newC cd))]) at hN
  refine CallJ.pure hN rfl (by simp [-Bool.exists_bool, -Int.not_le, -Int.not_lt, -getElem?_pos, -List.getD_eq_getElem?_getD]) ?_
  simp -implicitDefEqProofs -dsimp +contextual [-Bool.exists_bool, -Int.not_le, -Int.not_lt, -getElem?_pos, -List.getD_eq_getElem?_getD]
  refine callCu3 (2, 0) (l4Any cd (newC cd) (newC_ok cd) h20) (fun g => rfl) (fun _ => by simp [-Bool.exists_bool, -Int.not_le, -Int.not_lt, -getElem?_pos, -List.getD_eq_getElem?_getD, allKs]) (fun g => rfl) (by simp [-Bool.exists_bool, -Int.not_le, -Int.not_lt, -getElem?_pos, -List.getD_eq_getElem?_getD, setH]) (by simp [-Bool.exists_bool, -Int.not_le, -Int.not_lt, -getElem?_pos, -List.getD_eq_getElem?_getD]) ?_
  simp -implicitDefEqProofs -dsimp +contextual [-Bool.exists_bool, -Int.not_le, -Int.not_lt, -getElem?_pos, -List.getD_eq_getElem?_getD]
  exact RLe.pure 3 (by simp [-Bool.exists_bool, -Int.not_le, -Int.not_lt, -getElem?_pos, -List.getD_eq_getElem?_getD, setH])
end Go.Proofs.YtjknjekemolndaaGreat.ZL
namespace Go.Proofs.YtjknjekemolndaaGreat.ZL
open Go Go.Proofs.YtjknjekemolndaaGreat.Abs Go.Proofs.YtjknjekemolndaaGreat.Abs.Pl Go.RowKit Go.Proofs
set_option linter.unusedVariables false
set_option linter.unusedSimpArgs false
theorem SatL_app {x : Nat → Rat} {A B : List At} : SatL x (A ++ B) ↔ SatL x A ∧ SatL x B :=
  ⟨fun h => ⟨fun y hy => h y (List.mem_append.2 (.inl hy)), fun y hy => h y (List.mem_append.2 (.inr hy))⟩, fun h y hy => (List.mem_append.1 hy).elim (h.1 y) (h.2 y)⟩
theorem SatL_cons {x : Nat → Rat} {a : At} {B : List At} : SatL x (a :: B) ↔ Sat x a ∧ SatL x B :=
  ⟨fun h => ⟨h a (by simp [-Bool.exists_bool, -Int.not_le, -Int.not_lt, -getElem?_pos, -List.getD_eq_getElem?_getD]), fun y hy => h y (by simp [-Bool.exists_bool, -Int.not_le, -Int.not_lt, -getElem?_pos, -List.getD_eq_getElem?_getD, hy])⟩, fun h y hy => (List.mem_cons.1 hy).elim (fun e => e ▸ h.1) (h.2 y)⟩
theorem SatL_nil {x : Nat → Rat} : SatL x [] := fun a ha => by simp [-Bool.exists_bool, -Int.not_le, -Int.not_lt, -getElem?_pos, -List.getD_eq_getElem?_getD] at ha
theorem SatL_split {z : Nat → Rat} {x : List At} {i : Nat} (h : i < x.length) : SatL z x ↔ SatL z (x.take i) ∧ Sat z (nth x i) ∧ SatL z (x.drop (i + 1)) := by
  rw [← SatL_cons, ← nth_drop h, ← SatL_app, List.take_append_drop]
def SatR (z : Nat → Rat) (cs : List Ce) : Prop := ∃ c ∈ cs, SatL z c.2
theorem SatR_app {z : Nat → Rat} {A B : List Ce} : SatR z (A ++ B) ↔ SatR z A ∨ SatR z B :=
  ⟨fun ⟨c, hc, hs⟩ => (List.mem_append.1 hc).elim (fun h => .inl ⟨c, h, hs⟩) (fun h => .inr ⟨c, h, hs⟩), fun h => h.elim (fun ⟨c, hc, hs⟩ => ⟨c, List.mem_append.2 (.inl hc), hs⟩) (fun ⟨c, hc, hs⟩ => ⟨c, List.mem_append.2 (.inr hc), hs⟩)⟩
theorem SatR_cons {z : Nat → Rat} {a : Ce} {B : List Ce} : SatR z (a :: B) ↔ SatL z a.2 ∨ SatR z B :=
  ⟨fun ⟨c, hc, hs⟩ => (List.mem_cons.1 hc).elim (fun h => .inl (h ▸ hs)) (fun h => .inr ⟨c, h, hs⟩), fun h => h.elim (fun hs => ⟨a, by simp [-Bool.exists_bool, -Int.not_le, -Int.not_lt, -getElem?_pos, -List.getD_eq_getElem?_getD], hs⟩) (fun ⟨c, hc, hs⟩ => ⟨c, by simp [-Bool.exists_bool, -Int.not_le, -Int.not_lt, -getElem?_pos, -List.getD_eq_getElem?_getD, hc], hs⟩)⟩
theorem SatR_nil {z : Nat → Rat} : ¬ SatR z [] := fun ⟨c, hc, _⟩ => by simp [-Bool.exists_bool, -Int.not_le, -Int.not_lt, -getElem?_pos, -List.getD_eq_getElem?_getD] at hc
theorem minGo_sat {d : Int} : ∀ (n i : Nat) {x y : List At}, minGo d n i x = some y → ∀ z, SatL z y ↔ SatL z x
  | 0, i, x, y, h, z => by obtain rfl := Option.some.inj h; exact Iff.rfl
  | n + 1, i, x, y, h, z => by
    unfold minGo at h
    split at h
    · rename_i h2
      split at h
      · rename_i h1
        rw [minGo_sat n i h z]
        by_cases hi : i < x.length
        · have im := (impA_sat h2).2.2.1 h1 z
          rw [SatL_split hi, SatL_app]
          have im : SatL z (x.take i ++ x.drop (i + 1)) → Sat z (nth x i) := im
          rw [SatL_app] at im
          exact ⟨fun h => ⟨h.1, im h, h.2⟩, fun h => ⟨h.1, h.2.2⟩⟩
        · rw [List.take_of_length_le (by omega), List.drop_eq_nil_of_le (by omega), List.append_nil]
      · exact minGo_sat n (i + 1) h z
    · cases h
theorem minD_sat {d : Int} {L : List At} (h : (minD d L).2.2 = true) : (∀ z, SatL z (minD d L).2.1 ↔ SatL z L) ∧ (emF (minD d L).2.1 = false → ∃ z, SatL z L) ∧ (emF (minD d L).2.1 = true → ∀ z, ¬ SatL z L) := by
  have hm := minD_ok h
  have hs : (∀ z, SatL z (minD d L).2.1 ↔ SatL z L) ∧ (emF (minD d L).2.1 = false → ∃ z, SatL z L) := by
    unfold minD at h ⊢
    split at h
    · rename_i hc
      rw [if_pos hc]
      have hL := isCe_a hc
      have nr := fun z => nrm_sat hL z
      unfold minC at h ⊢
      split at h
      · rename_i h2
        rw [if_pos h2]
        have e := (emptyC_sat h2).2
        split at h
        · rename_i h1
          rw [if_pos h1]
          have e := e.1 h1
          have hg : gcdL (noneA d).1 = 0 := gcd_zeros _
          have he : emF [noneA d] = true := (emF_NF (.inl rfl)).2 ⟨rfl, hg⟩
          refine ⟨fun z => ⟨fun hz => absurd (hz _ (List.mem_singleton.2 rfl)) (noneA_not d), fun hz => absurd ((nr z).2 hz) (e z)⟩, fun hf => ?_⟩
          have hf : emF [noneA d] = false := hf
          rw [he] at hf; cases hf
        · rename_i h1
          rw [if_neg h1]
          have ex : ∃ z, SatL z L := Classical.byContradiction fun hn => h1 (e.2 fun z hz => hn ⟨z, (nr z).1 hz⟩)
          cases hy : minGo d (nrm d L).length 0 (nrm d L) with
          | none => rw [hy] at h; cases h
          | some y => exact ⟨fun z => (minGo_sat _ _ hy z).trans (nr z), fun _ => ex⟩
      · cases h
    · cases h
  refine ⟨hs.1, hs.2, fun he z hz => ?_⟩
  have hg := (emF_NF hm.2.2).1 he
  have hz := (hs.1 z).2 hz
  rcases hm.2.2 with h0 | h0
  · rw [h0] at hz
    exact noneA_not d (hz _ (List.mem_singleton.2 rfl))
  · exact h0 _ (nth_mem (by omega)) hg.2
def allPt (cs : List Ce) : Prop := ∀ c ∈ cs, ∃ z, SatL z c.2
def dis (a b : Ce) : Prop := ∀ z, SatL z a.2 → SatL z b.2 → False
theorem addC_sat {cs x : List Ce} {c : Ce} (h : addC cs c = some x) : (x = cs ∧ ∀ z, ¬ SatL z c.2) ∨ ∃ c' : Ce, x = cs ++ [c'] ∧ (∀ z, SatL z c'.2 ↔ SatL z c.2) ∧ ∃ z, SatL z c.2 := by
  unfold addC at h
  split at h
  · rename_i h1
    obtain ⟨m1, m2, m3⟩ := minD_sat h1
    split at h
    · rename_i he
      exact .inl ⟨(Option.some.inj h).symm, m3 he⟩
    · rename_i he
      split at h
      · refine .inr ⟨_, (Option.some.inj h).symm, m1, m2 (by simpa [-Bool.exists_bool, -Int.not_le, -Int.not_lt, -getElem?_pos, -List.getD_eq_getElem?_getD] using he)⟩
      · cases h
  · cases h
theorem addC_R {cs x : List Ce} {c : Ce} (h : addC cs c = some x) : ∀ z, SatR z x ↔ SatR z cs ∨ SatL z c.2 := fun z => by
  rcases addC_sat h with ⟨rfl, hn⟩ | ⟨c', rfl, he, _⟩
  · exact ⟨.inl, fun h => h.elim id fun h => absurd h (hn z)⟩
  · rw [SatR_app, SatR_cons, he z]
    exact ⟨fun h => h.elim .inl fun h => h.elim .inr fun h => absurd h SatR_nil, fun h => h.elim .inl fun h => .inr (.inl h)⟩
theorem addC_pt {cs x : List Ce} {c : Ce} (h : addC cs c = some x) (hp : allPt cs) : allPt x := by
  rcases addC_sat h with ⟨rfl, hn⟩ | ⟨c', rfl, he, z, hz⟩
  · exact hp
  · intro y hy
    rcases List.mem_append.1 hy with hy | hy
    · exact hp y hy
    · rw [List.mem_singleton.1 hy]; exact ⟨z, (he z).2 hz⟩
theorem addC_dis {cs x : List Ce} {c : Ce} (h : addC cs c = some x) (hp : cs.Pairwise dis) (hc : ∀ a ∈ cs, dis a c) : x.Pairwise dis := by
  rcases addC_sat h with ⟨rfl, hn⟩ | ⟨c', rfl, he, z, hz⟩
  · exact hp
  · rw [List.pairwise_append]
    refine ⟨hp, List.pairwise_singleton _ _, fun a ha b hb => ?_⟩
    rw [List.mem_singleton.1 hb]
    exact fun z h1 h2 => hc a ha z h1 ((he z).1 h2)
theorem addC_mem {cs x : List Ce} {c : Ce} (h : addC cs c = some x) : ∀ a ∈ x, a ∈ cs ∨ ∀ z, SatL z a.2 → SatL z c.2 := fun a ha => by
  rcases addC_sat h with ⟨rfl, hn⟩ | ⟨c', rfl, he, z, hz⟩
  · exact .inl ha
  · rcases List.mem_append.1 ha with ha | ha
    · exact .inl ha
    · rw [List.mem_singleton.1 ha]; exact .inr fun z => (he z).1
theorem neatGo_R : ∀ {cs acc x : List Ce}, neatGo cs acc = some x → ∀ z, SatR z x ↔ SatR z acc ∨ SatR z cs
  | [], acc, x, h, z => by obtain rfl := Option.some.inj h; exact ⟨.inl, fun h => h.elim id fun h => absurd h SatR_nil⟩
  | c :: cs, acc, x, h, z => by
    obtain ⟨y, h1, h2⟩ := Option.bind_eq_some_iff.1 h
    rw [neatGo_R h2, addC_R h1, SatR_cons, or_assoc]
theorem neatGo_pt : ∀ {cs acc x : List Ce}, neatGo cs acc = some x → allPt acc → allPt x
  | [], acc, x, h, hp => by obtain rfl := Option.some.inj h; exact hp
  | c :: cs, acc, x, h, hp => by
    obtain ⟨y, h1, h2⟩ := Option.bind_eq_some_iff.1 h
    exact neatGo_pt h2 (addC_pt h1 hp)
theorem partC_sat {z : Nat → Rat} {d : Int} {x : List At} {k : Nat} : SatL z (partC d x k).2 ↔ SatL z (x.take k) ∧ ¬ Sat z (nth x k) := by
  show SatL z (x.take k ++ [negA (nth x k)]) ↔ _
  rw [SatL_app, SatL_cons]
  have : Sat z (negA (nth x k)) ↔ ¬ Sat z (nth x k) := neg_sat
  rw [this]
  exact ⟨fun h => ⟨h.1, h.2.1⟩, fun h => ⟨h.1, h.2, SatL_nil⟩⟩
theorem lessIn_sat {d : Int} {c : Ce} {x : List At} : ∀ (n : Nat) {acc y : List Ce}, n ≤ x.length → lessIn d c x n acc = some y →
    (∀ z, SatR z y ↔ SatR z acc ∨ (SatL z c.2 ∧ SatL z (x.take (x.length - n)) ∧ ¬ SatL z (x.drop (x.length - n)))) ∧ (allPt acc → allPt y) ∧
    (acc.Pairwise dis → (∀ a ∈ acc, ∀ z, SatL z a.2 → ¬ (SatL z c.2 ∧ SatL z (x.take (x.length - n)))) → y.Pairwise dis)
  | 0, acc, y, hn, h => by
    obtain rfl := Option.some.inj h
    refine ⟨fun z => ?_, id, fun h _ => h⟩
    rw [Nat.sub_zero, List.drop_length]
    exact ⟨.inl, fun h => h.elim id fun h => absurd SatL_nil h.2.2⟩
  | n + 1, acc, y, hn, h => by
    unfold lessIn at h
    split at h
    · rename_i hm
      obtain ⟨w, h1, h2⟩ := Option.bind_eq_some_iff.1 h
      obtain ⟨i1, i2, i3⟩ := lessIn_sat n (by omega) h2
      have ms := (meetC_sat hm).2.2.2
      have hk : x.length - (n + 1) < x.length := by omega
      have ek : x.length - n = x.length - (n + 1) + 1 := by omega
      generalize x.length - (n + 1) = k at *
      rw [ek] at i1 i3
      have ar := addC_R h1
      have t1 : ∀ z, SatL z (x.take (k + 1)) ↔ SatL z (x.take k) ∧ Sat z (nth x k) := fun z => by
        rw [nth_take hk, SatL_app, SatL_cons]
        exact ⟨fun h => ⟨h.1, h.2.1⟩, fun h => ⟨h.1, h.2, SatL_nil⟩⟩
      have t2 : ∀ z, SatL z (x.drop k) ↔ Sat z (nth x k) ∧ SatL z (x.drop (k + 1)) := fun z => by
        rw [nth_drop hk, SatL_cons]
      have ms' : ∀ z, SatL z (meetC c (partC d x k)).2.1 ↔ SatL z c.2 ∧ SatL z (x.take k) ∧ ¬ Sat z (nth x k) := fun z => by
        rw [ms z, partC_sat]
      refine ⟨fun z => ?_, fun hp => i2 (addC_pt h1 hp), fun hp ha => i3 (addC_dis h1 hp fun a hac z h3 h4 => ?_) fun a haw z hz hh => ?_⟩
      · rw [i1 z, ar z, t1, t2, or_assoc]
        show _ ∨ SatL z (meetC c (partC d x k)).2.1 ∨ _ ↔ _
        rw [ms' z]
        by_cases p1 : SatL z c.2 <;> by_cases p2 : SatL z (x.take k) <;> by_cases p3 : Sat z (nth x k) <;> simp [-Bool.exists_bool, -Int.not_le, -Int.not_lt, -getElem?_pos, -List.getD_eq_getElem?_getD, p1, p2, p3]
      · have h4 : SatL z (meetC c (partC d x k)).2.1 := h4
        rw [ms' z] at h4
        exact ha a hac z h3 ⟨h4.1, h4.2.1⟩
      · rw [t1] at hh
        rcases addC_mem h1 a haw with hm | hm
        · exact ha a hm z hz ⟨hh.1, hh.2.1⟩
        · have := hm z hz
          have this : SatL z (meetC c (partC d x k)).2.1 := this
          rw [ms' z] at this
          exact this.2.2 hh.2.2
    · cases h
theorem lessOut_sat {d : Int} {x : List At} : ∀ {cs acc y : List Ce}, lessOut d x cs acc = some y →
    (∀ z, SatR z y ↔ SatR z acc ∨ (SatR z cs ∧ ¬ SatL z x)) ∧ (allPt acc → allPt y) ∧
    (acc.Pairwise dis → cs.Pairwise dis → (∀ c ∈ cs, ∀ z, SatR z acc → ¬ SatL z c.2) → y.Pairwise dis)
  | [], acc, y, h => by
    obtain rfl := Option.some.inj h
    exact ⟨fun z => ⟨.inl, fun h => h.elim id fun h => absurd h.1 SatR_nil⟩, id, fun h _ _ => h⟩
  | c :: cs, acc, y, h => by
    obtain ⟨w, h1, h2⟩ := Option.bind_eq_some_iff.1 h
    obtain ⟨j1, j2, j3⟩ := lessIn_sat x.length (Nat.le_refl _) h1
    obtain ⟨i1, i2, i3⟩ := lessOut_sat h2
    rw [Nat.sub_self] at j1 j3
    have j1 : ∀ z, SatR z w ↔ SatR z acc ∨ (SatL z c.2 ∧ ¬ SatL z x) := fun z => by
      rw [j1 z, List.take_zero, List.drop_zero]
      exact or_congr Iff.rfl ⟨fun h => ⟨h.1, h.2.2⟩, fun h => ⟨h.1, SatL_nil, h.2⟩⟩
    refine ⟨fun z => ?_, fun hp => i2 (j2 hp), fun hp hc ha => ?_⟩
    · rw [i1 z, j1 z, SatR_cons]
      by_cases p : SatL z x <;> simp [-Bool.exists_bool, -Int.not_le, -Int.not_lt, -getElem?_pos, -List.getD_eq_getElem?_getD, p, or_assoc]
    · have hc' := List.pairwise_cons.1 hc
      refine i3 (j3 hp fun a haa z hz hh => ha c (by simp [-Bool.exists_bool, -Int.not_le, -Int.not_lt, -getElem?_pos, -List.getD_eq_getElem?_getD]) z ⟨a, haa, hz⟩ hh.1) hc'.2 fun c' hc2 z hz hs => ?_
      rcases (j1 z).1 hz with hz | hz
      · exact ha c' (by simp [-Bool.exists_bool, -Int.not_le, -Int.not_lt, -getElem?_pos, -List.getD_eq_getElem?_getD, hc2]) z hz hs
      · exact hc'.1 c' hc2 z hz.1 hs
theorem lessD_sat {d : Int} {cs y : List Ce} {c : Ce} (h : lessD d cs c = some y) : (∀ z, SatR z y ↔ SatR z cs ∧ ¬ SatL z c.2) ∧ allPt y ∧ (cs.Pairwise dis → y.Pairwise dis) := by
  unfold lessD at h
  split at h
  · rename_i hm
    obtain ⟨h1, h2, h3⟩ := lessOut_sat h
    have m1 := (minD_sat hm).1
    refine ⟨fun z => ?_, h2 (fun c hc => by simp [-Bool.exists_bool, -Int.not_le, -Int.not_lt, -getElem?_pos, -List.getD_eq_getElem?_getD] at hc), fun hp => h3 List.Pairwise.nil hp fun c hc z hz => absurd hz SatR_nil⟩
    rw [h1 z]
    show _ ∨ (_ ∧ ¬ SatL z (minD c.1 c.2).2.1) ↔ _
    rw [m1 z]
    exact ⟨fun h => h.elim (fun h => absurd h SatR_nil) id, .inr⟩
  · cases h
theorem diffGo_sat {d : Int} : ∀ {B A y : List Ce}, diffGo d B A = some y → (∀ z, SatR z y ↔ SatR z A ∧ ¬ SatR z B) ∧ (allPt A → allPt y) ∧ (A.Pairwise dis → y.Pairwise dis)
  | [], A, y, h => by
    obtain rfl := Option.some.inj h
    exact ⟨fun z => ⟨fun h => ⟨h, SatR_nil⟩, fun h => h.1⟩, id, id⟩
  | c :: B, A, y, h => by
    obtain ⟨w, h1, h2⟩ := Option.bind_eq_some_iff.1 h
    obtain ⟨j1, j2, j3⟩ := lessD_sat h1
    obtain ⟨i1, i2, i3⟩ := diffGo_sat h2
    refine ⟨fun z => ?_, fun _ => i2 j2, fun hp => i3 (j3 hp)⟩
    rw [i1 z, j1 z, SatR_cons]
    exact ⟨fun h => ⟨h.1.1, fun hc => hc.elim h.1.2 h.2⟩, fun h => ⟨⟨h.1, fun hc => h.2 (.inl hc)⟩, fun hc => h.2 (.inr hc)⟩⟩
theorem diffD_sat {d e : Int} {A B : List Ce} (h : (diffD d A e B).2.2 = true) : (isRe d A = true ∧ isRe e B = true ∧ d = e) ∧ (∀ z, SatR z (diffD d A e B).2.1 ↔ SatR z A ∧ ¬ SatR z B) ∧ allPt (diffD d A e B).2.1 ∧ (A.length ≤ 1 → (diffD d A e B).2.1.Pairwise dis) := by
  unfold diffD at h ⊢
  split at h
  · rename_i hc
    rw [if_pos hc]
    cases hn : neatGo A [] with
    | none => rw [hn] at h; cases h
    | some w =>
      rw [hn] at h
      simp only [Option.bind_some] at h ⊢
      cases hy : diffGo d B w with
      | none => rw [hy] at h; cases h
      | some y =>
        obtain ⟨i1, i2, i3⟩ := diffGo_sat hy
        have n1 := neatGo_R hn
        have n2 := neatGo_pt hn (fun c hc => by simp [-Bool.exists_bool, -Int.not_le, -Int.not_lt, -getElem?_pos, -List.getD_eq_getElem?_getD] at hc)
        refine ⟨hc, fun z => ?_, i2 n2, fun hl => i3 ?_⟩
        · show SatR z y ↔ _
          rw [i1 z, n1 z]
          exact and_congr ⟨fun h => h.elim (fun h => absurd h SatR_nil) id, .inr⟩ Iff.rfl
        · rcases A with _ | ⟨a, _ | ⟨b, R⟩⟩
          · obtain rfl := Option.some.inj hn; exact List.Pairwise.nil
          · obtain ⟨v, h1, h2⟩ := Option.bind_eq_some_iff.1 hn
            obtain rfl := Option.some.inj h2
            exact addC_dis h1 List.Pairwise.nil fun a ha => by simp [-Bool.exists_bool, -Int.not_le, -Int.not_lt, -getElem?_pos, -List.getD_eq_getElem?_getD] at ha
          · simp [-Bool.exists_bool, -Int.not_le, -Int.not_lt, -getElem?_pos, -List.getD_eq_getElem?_getD] at hl
  · cases h
theorem covR_sat {d e : Int} {A B : List Ce} (h : (covR d A e B).2 = true) : (covR d A e B).1 = true ↔ ∀ z, SatR z B → SatR z A := by
  unfold covR at h ⊢
  split at h
  · rename_i hd
    rw [if_pos hd]
    obtain ⟨_, d1, d2, _⟩ := diffD_sat hd
    rw [decide_eq_true_iff]
    constructor
    · intro h0 z hz
      refine Classical.byContradiction fun hn => ?_
      have := (d1 z).2 ⟨hz, hn⟩
      rw [List.eq_nil_of_length_eq_zero h0] at this
      exact SatR_nil this
    · intro hs
      cases hq : (diffD e B d A).2.1 with
      | nil => rfl
      | cons c R =>
        obtain ⟨z, hz⟩ := d2 c (by rw [hq]; simp [-Bool.exists_bool, -Int.not_le, -Int.not_lt, -getElem?_pos, -List.getD_eq_getElem?_getD])
        have := (d1 z).1 ⟨c, by rw [hq]; simp [-Bool.exists_bool, -Int.not_le, -Int.not_lt, -getElem?_pos, -List.getD_eq_getElem?_getD], hz⟩
        exact absurd (hs z this.1) this.2
  · cases h
def splitGo (d : Int) (cs : List Ce) : Nat → List Ce → Option (List Ce)
  | 0, out => some out
  | n + 1, out => if (diffD d [nth cs (cs.length - (n + 1))] d (cs.take (cs.length - (n + 1)))).2.2 = true ∧ out.length + (diffD d [nth cs (cs.length - (n + 1))] d (cs.take (cs.length - (n + 1)))).2.1.length ≤ 12 then
      splitGo d cs n (out ++ (diffD d [nth cs (cs.length - (n + 1))] d (cs.take (cs.length - (n + 1)))).2.1) else none
def splitD (d : Int) (cs : List Ce) : Int × List Ce × Bool := if isRe d cs = true then optR d (splitGo d cs cs.length []) else (0, [], false)
theorem splitGo_sat {d : Int} {cs : List Ce} : ∀ (n : Nat) {out y : List Ce}, n ≤ cs.length → splitGo d cs n out = some y → (∀ z, SatR z out ↔ SatR z (cs.take (cs.length - n))) → out.Pairwise dis → (∀ z, SatR z y ↔ SatR z cs) ∧ y.Pairwise dis
  | 0, out, y, hn, h, hs, hp => by
    obtain rfl := Option.some.inj h
    rw [Nat.sub_zero, List.take_length] at hs
    exact ⟨hs, hp⟩
  | n + 1, out, y, hn, h, hs, hp => by
    unfold splitGo at h
    split at h
    · rename_i hc
      have hk : cs.length - (n + 1) < cs.length := by omega
      have ek : cs.length - n = cs.length - (n + 1) + 1 := by omega
      obtain ⟨_, d1, d2, d3⟩ := diffD_sat hc.1
      have d3 := d3 (by simp [-Bool.exists_bool, -Int.not_le, -Int.not_lt, -getElem?_pos, -List.getD_eq_getElem?_getD])
      refine splitGo_sat n (by omega) h (fun z => ?_) ?_
      · rw [ek]
        generalize cs.length - (n + 1) = k at *
        rw [SatR_app, d1 z, hs z, nth_take hk, SatR_app]
        by_cases p : SatR z (cs.take k) <;> simp [-Bool.exists_bool, -Int.not_le, -Int.not_lt, -getElem?_pos, -List.getD_eq_getElem?_getD, p]
      · rw [List.pairwise_append]
        refine ⟨hp, d3, fun a ha b hb z h1 h2 => ?_⟩
        exact ((d1 z).1 ⟨b, hb, h2⟩).2 ((hs z).1 ⟨a, ha, h1⟩)
    · cases h
theorem splitD_sat {d : Int} {cs : List Ce} (h : (splitD d cs).2.2 = true) : (∀ z, SatR z (splitD d cs).2.1 ↔ SatR z cs) ∧ (splitD d cs).2.1.Pairwise dis := by
  unfold splitD at h ⊢
  split at h
  · rename_i hc
    rw [if_pos hc]
    cases hy : splitGo d cs cs.length [] with
    | none => rw [hy] at h; cases h
    | some y => exact splitGo_sat cs.length (Nat.le_refl _) hy (fun z => by rw [Nat.sub_self, List.take_zero]) List.Pairwise.nil
  · cases h
theorem split_same {d e : Int} {A B : List Ce} (hs : ∀ z, SatR z B ↔ SatR z A) (h1 : (covR d A e B).2 = true) (h2 : (covR e B d A).2 = true) : (covR d A e B).1 = true ∧ (covR e B d A).1 = true :=
  ⟨(covR_sat h1).2 fun z hz => (hs z).1 hz, (covR_sat h2).2 fun z hz => (hs z).2 hz⟩
theorem split_dis {cs : List Ce} (hp : cs.Pairwise dis) {i k : Nat} (hk : k < i) (hi : i < cs.length) (hm : (meetC (nth cs i) (nth cs k)).2.2 = true) (he : (emptyC (meetC (nth cs i) (nth cs k)).1 (meetC (nth cs i) (nth cs k)).2.1).2 = true) : (emptyC (meetC (nth cs i) (nth cs k)).1 (meetC (nth cs i) (nth cs k)).2.1).1 = true := by
  rw [(emptyC_sat he).2]
  intro z hz
  have := ((meetC_sat hm).2.2.2 z).1 hz
  have hq := List.pairwise_iff_getElem.1 hp k i (by omega) hi hk
  rw [nth_eq hi, nth_eq (show k < cs.length by omega)] at this
  exact hq z this.2 this.1
end Go.Proofs.YtjknjekemolndaaGreat.ZL
namespace Go.Proofs.YtjknjekemolndaaGreat.ZL
open Go Go.Proofs.YtjknjekemolndaaGreat.Abs Go.Proofs.YtjknjekemolndaaGreat.Abs.Pl Go.RowKit Go.Proofs
set_option linter.unusedVariables false
set_option linter.unusedSimpArgs false
set_option maxRecDepth 100000
abbrev aH (d : Int) (cs : List Ce) : Store := hl [((0, 1), .box [I d, .ref (0, 2) cs.length]), ((0, 2), .row 26 cs.length (dl (csD cs)))]
abbrev aN (d : Int) (cs : List Ce) : Store := hl [((0, 1), .box [I d, .ref (1, 0) cs.length]), ((1, 0), .row 26 cs.length (dl (csD cs)))]
def aA (k : Key) : Prop := k = (0, 1) ∨ k = (0, 2)
def aOut (d : Int) (cs : List Ce) (c : Ce) : Bool × Store := if (minD c.1 c.2).2.2 = true then (if emF (minD c.1 c.2).2.1 = true then (true, aH d cs) else if cs.length < 12 then (true, aN d (cs ++ [((minD c.1 c.2).1, (minD c.1 c.2).2.1)])) else (false, aH d cs)) else (false, aH d cs)
theorem aOut_none {d : Int} {cs : List Ce} {c : Ce} (h : addC cs c = none) : aOut d cs c = (false, aH d cs) := by
  unfold addC mC at h
  unfold aOut
  split at h
  · rename_i h1
    rw [if_pos h1]
    split at h
    · cases h
    · rename_i h2
      rw [if_neg h2]
      split at h
      · cases h
      · rename_i h3; rw [if_neg h3]
  · rename_i h1; rw [if_neg h1]
theorem aOut_some {d : Int} {cs x : List Ce} {c : Ce} (h : addC cs c = some x) : (x = cs ∧ aOut d cs c = (true, aH d cs)) ∨ (x.length = cs.length + 1 ∧ aOut d cs c = (true, aN d x)) := by
  unfold addC mC at h
  unfold aOut
  split at h
  · rename_i h1
    rw [if_pos h1]
    split at h
    · rename_i h2
      exact .inl ⟨(Option.some.inj h).symm, by rw [if_pos h2]⟩
    · rename_i h2
      rw [if_neg h2]
      split at h
      · rename_i h3
        exact .inr ⟨by rw [← Option.some.inj h]; simp [-Bool.exists_bool, -Int.not_le, -Int.not_lt, -getElem?_pos, -List.getD_eq_getElem?_getD], by rw [if_pos h3, ← Option.some.inj h]⟩
      · cases h
  · cases h
def inv1 (s : Nat) (k : Key) : Key := if k = (1, 0) then (s, 0) else k
theorem RLm.told1 {P : Program} {A : Key → Prop} {H : Store} {r v : V} {K : List (Key × Ent)} (s : Nat) (hs : 2 ≤ s) (hv : VLe H (inv1 s) 2 v r) (hr : allK (okKey A) r)
    (hK : allP (fun p : Key × Ent => p.1.1 < 2 ∧ okKey A p.1 ∧ allKE (okKey A) p.2 ∧ entIs (H (inv1 s p.1)) fun e => ELe H (inv1 s) 2 e p.2) K) : RLm P A H v r (hl K) := by
  have hlt : ∀ k e, hl K k = some e → k.1 < 2 := fun k e hk => (allP_mem hK _ (hl_mem hk)).1
  refine RLm.mk (inv1 s) (fun k hk => ?_) hv hr (fun k e' hk => ?_) (fun k k' e e' h1 h2 h => ?_)
  · unfold inv1
    rw [if_neg (fun e => by rw [e] at hk; cases hk)]
  · obtain ⟨h1, h2, h3, h4⟩ := allP_mem hK _ (hl_mem hk)
    simp only [entIs] at h4
    refine ⟨h1, h2, h3, ?_⟩
    cases hq : H (inv1 s k) with
    | none => rw [hq] at h4; exact h4.elim
    | some e => rw [hq] at h4; exact ⟨e, rfl, h4⟩
  · have l1 := hlt k e h1
    have l2 := hlt k' e' h2
    unfold inv1 at h
    split at h
    · rename_i e1
      split at h
      · rename_i e2; rw [e1, e2]
      · rw [← h] at l2; simp [-Bool.exists_bool, -Int.not_le, -Int.not_lt, -getElem?_pos, -List.getD_eq_getElem?_getD] at l2; omega
    · split at h
      · rw [h] at l1; simp [-Bool.exists_bool, -Int.not_le, -Int.not_lt, -getElem?_pos, -List.getD_eq_getElem?_getD] at l1; omega
      · exact h
theorem addCell (d : Int) (cs : List Ce) (c : Ce) (hl20 : c.2.length ≤ 1048576) (h12 : cs.length ≤ 12) : Cm Tryz.prog 85 aA [.ptr (0, 1) 0, C1 c.1 c.2] (aH d cs) (B (aOut d cs c).1) (aOut d cs c).2 := by
  refine Cm.of [] mixed Tryz.func85 rfl Tryz.call85 (by kernel_rfl) rfl ?_
  simp -implicitDefEqProofs -dsimp +contextual [-Bool.exists_bool, -Int.not_le, -Int.not_lt, -getElem?_pos, -List.getD_eq_getElem?_getD, Tryz.f85]
  refine CallJ.pure (iMinimalCellW c.1 c.2 hl20) rfl (by simp [-Bool.exists_bool, -Int.not_le, -Int.not_lt, -getElem?_pos, -List.getD_eq_getElem?_getD]) ?_
  have ho : (minD c.1 c.2).2.2 = true → (minD c.1 c.2).1 = c.1 ∧ isCe c.1 (minD c.1 c.2).2.1 = true ∧ NF c.1 (minD c.1 c.2).2.1 := minD_ok
  unfold aOut
  generalize minD c.1 c.2 = m at ho ⊢
  obtain ⟨m1, m2, m3⟩ := m
  simp only at ho ⊢
  simp -implicitDefEqProofs -dsimp +contextual [-Bool.exists_bool, -Int.not_le, -Int.not_lt, -getElem?_pos, -List.getD_eq_getElem?_getD]
  have same : ∀ {b : Bool}, RLm Tryz.prog aA (setH (8, 0) (some (Ent.box [V.d (D.int IntKind.i64 m1), V.d (D.sl m2.length (asD m2))])) (setH (8, 0) (some (Ent.box [V.d (D.int IntKind.i64 0), V.nil])) (setH (1, 0) (some (Ent.box [I c.fst, As c.snd])) (aH d cs)))) (B b) (B b) (aH d cs) := fun {b} => by
    refine RLm.told ?_ ?_ ?_
    · simp [-Bool.exists_bool, -Int.not_le, -Int.not_lt, -getElem?_pos, -List.getD_eq_getElem?_getD]
    · simp [-Bool.exists_bool, -Int.not_le, -Int.not_lt, -getElem?_pos, -List.getD_eq_getElem?_getD, allK]
    · simp [-Bool.exists_bool, -Int.not_le, -Int.not_lt, -getElem?_pos, -List.getD_eq_getElem?_getD, okKey, allKE, allKs, allK, aA]
  refine ⟨fun hf => ?_, fun hf => same⟩
  obtain ⟨rfl, o2, o3⟩ := ho hf
  refine CallJ.pure (iEmptyForm c.1 m2 (isCe_l o2) (isCe_a o2)) rfl (by simp [-Bool.exists_bool, -Int.not_le, -Int.not_lt, -getElem?_pos, -List.getD_eq_getElem?_getD]) ?_
  simp -implicitDefEqProofs -dsimp +contextual [-Bool.exists_bool, -Int.not_le, -Int.not_lt, -getElem?_pos, -List.getD_eq_getElem?_getD]
  refine ⟨fun h1 => ?_, fun h1 => ⟨fun h2 => ?_, fun h2 => ?_⟩⟩
  · rw [if_pos hf]; exact same
  · rw [if_pos hf, if_neg (by omega)]; exact same
  · rw [if_pos hf, if_pos (by omega)]
    refine ⟨⟨by omega, by simp [-Bool.exists_bool, -Int.not_le, -Int.not_lt, -getElem?_pos, -List.getD_eq_getElem?_getD, maxLen]; omega⟩, by kernel_rfl, ?_⟩
    refine RLm.told1 28 (by omega) ?_ ?_ ?_
    · simp [-Bool.exists_bool, -Int.not_le, -Int.not_lt, -getElem?_pos, -List.getD_eq_getElem?_getD]
    · simp [-Bool.exists_bool, -Int.not_le, -Int.not_lt, -getElem?_pos, -List.getD_eq_getElem?_getD, allK]
    · simp [-Bool.exists_bool, -Int.not_le, -Int.not_lt, -getElem?_pos, -List.getD_eq_getElem?_getD, okKey, allKE, allKs, allK, aA, inv1, setH, csD_append, csD_cons, cD]
def upAdd (kb kr : Key) (s : Nat) (d : Int) (x : List Ce) : Key → Option (Option Ent) := fun k => if k = (s, 0) then some (some (.row 26 x.length (dl (csD x)))) else if k = kb then some (some (.box [I d, .ref (s, 0) x.length])) else if k = kr then some none else none
def upSm (kb kr : Key) (d : Int) (x : List Ce) : Key → Option (Option Ent) := fun k => if k = kb then some (some (.box [I d, .ref kr x.length])) else if k = kr then some (some (.row 26 x.length (dl (csD x)))) else none
theorem app_upAdd (kb kr : Key) (s : Nat) (d : Int) (x : List Ce) (H : Store) : app (upAdd kb kr s d x) H = setH (s, 0) (some (.row 26 x.length (dl (csD x)))) (setH kb (some (.box [I d, .ref (s, 0) x.length])) (setH kr none H)) := by
  funext k
  unfold app upAdd setH
  by_cases h1 : k = (s, 0)
  · simp only [if_pos h1]
  · by_cases h2 : k = kb
    · simp only [if_neg h1, if_pos h2]
    · by_cases h3 : k = kr
      · simp only [if_neg h1, if_neg h2, if_pos h3]
      · simp only [if_neg h1, if_neg h2, if_neg h3]
theorem app_upSm (kb kr : Key) (d : Int) (x : List Ce) (H : Store) : app (upSm kb kr d x) H = setH kb (some (.box [I d, .ref kr x.length])) (setH kr (some (.row 26 x.length (dl (csD x)))) H) := by
  funext k
  unfold app upSm setH
  by_cases h2 : k = kb
  · simp only [if_pos h2]
  · by_cases h3 : k = kr
    · simp only [if_neg h2, if_pos h3]
    · simp only [if_neg h2, if_neg h3]
attribute [simp] app_upAdd app_upSm
theorem callAdd {N nx s : Nat} {H : Store} {K : Eff → Prop} (kb kr : Key) (d : Int) (cs : List Ce) (c : Ce) (hl20 : c.2.length ≤ 1048576) (h12 : cs.length ≤ 12) (hb : H kb = some (.box [I d, .ref kr cs.length])) (hr : H kr = some (.row 26 cs.length (dl (csD cs)))) (hne : kb ≠ kr) (hn : kb.1 < nx ∧ kr.1 < nx) (hs : kb.1 ≠ s ∧ kr.1 ≠ s)
    (k0 : addC cs c = none → K ⟨B false, [kb, kr], [kb, kr], upSm kb kr d cs⟩) (k1 : addC cs c = some cs → K ⟨B true, [kb, kr], [kb, kr], upSm kb kr d cs⟩) (k2 : ∀ x, addC cs c = some x → x.length = cs.length + 1 → K ⟨B true, [kb, kr], [kb, kr], upAdd kb kr s d x⟩) :
    CallJ Tryz.prog N nx s H 85 [.ptr kb 0, C1 c.1 c.2] K := by
  have base : ∀ {r : Bool} {Hr : Store}, Cm Tryz.prog 85 aA [.ptr (0, 1) 0, C1 c.1 c.2] (aH d cs) (B r) Hr → (∀ k e, Hr k = some e → k.1 < 2 ∧ (k.1 = 0 → (aH d cs k).isSome = true)) → K ⟨B r, [kb, kr], [kb, kr], upMut (fun j => if j = 0 then kb else kr) (fun k => if k = kb then some 0 else if k = kr then some 1 else none) s Hr⟩ → CallJ Tryz.prog N nx s H 85 [.ptr kb 0, C1 c.1 c.2] K := fun {r Hr} hm h2 hk => by
    refine CallJ.mut (fun j => if j = 0 then kb else kr) (fun k => if k = kb then some 0 else if k = kr then some 1 else none) [kb, kr] [] hm ?_ ?_ ?_ ?_ ?_ ?_ h2 ?_ (by simpa [-Bool.exists_bool, -Int.not_le, -Int.not_lt, -getElem?_pos, -List.getD_eq_getElem?_getD] using hk)
    · simp [-Bool.exists_bool, -Int.not_le, -Int.not_lt, -getElem?_pos, -List.getD_eq_getElem?_getD, gk]
    · simp [-Bool.exists_bool, -Int.not_le, -Int.not_lt, -getElem?_pos, -List.getD_eq_getElem?_getD, allKs, allK, aA]
    · rintro k (rfl | rfl)
      · simp [-Bool.exists_bool, -Int.not_le, -Int.not_lt, -getElem?_pos, -List.getD_eq_getElem?_getD, hb]
      · simp [-Bool.exists_bool, -Int.not_le, -Int.not_lt, -getElem?_pos, -List.getD_eq_getElem?_getD, hr]
    · intro k e h
      have h := hl_mem h
      simp [-Bool.exists_bool, -Int.not_le, -Int.not_lt, -getElem?_pos, -List.getD_eq_getElem?_getD] at h
      rcases h with ⟨rfl, rfl⟩ | ⟨rfl, rfl⟩
      · simp [-Bool.exists_bool, -Int.not_le, -Int.not_lt, -getElem?_pos, -List.getD_eq_getElem?_getD, aA, hb, mapE, allKE, allKs, allK, gk]
      · simp [-Bool.exists_bool, -Int.not_le, -Int.not_lt, -getElem?_pos, -List.getD_eq_getElem?_getD, aA, hr, mapE, allKE, allKs, allK, gk, hne.symm]
    · intro k j h
      split at h
      · rename_i e
        obtain rfl := Option.some.inj h
        simp [-Bool.exists_bool, -Int.not_le, -Int.not_lt, -getElem?_pos, -List.getD_eq_getElem?_getD, e]
      · split at h
        · rename_i e1 e2
          obtain rfl := Option.some.inj h
          simp [-Bool.exists_bool, -Int.not_le, -Int.not_lt, -getElem?_pos, -List.getD_eq_getElem?_getD, e2]
        · cases h
    · simp [-Bool.exists_bool, -Int.not_le, -Int.not_lt, -getElem?_pos, -List.getD_eq_getElem?_getD, hne.symm]
    · simp [-Bool.exists_bool, -Int.not_le, -Int.not_lt, -getElem?_pos, -List.getD_eq_getElem?_getD, hb, hr, hn]
  have um : ∀ k, upMut (fun j => if j = 0 then kb else kr) (fun k => if k = kb then some 0 else if k = kr then some 1 else none) s (aH d cs) k = upSm kb kr d cs k := fun k => by
    unfold upMut upSm
    split
    · rename_i hks
      have n1 : k ≠ kb := fun e => hs.1 (by rw [← e]; exact hks)
      have n2 : k ≠ kr := fun e => hs.2 (by rw [← e]; exact hks)
      simp [-Bool.exists_bool, -Int.not_le, -Int.not_lt, -getElem?_pos, -List.getD_eq_getElem?_getD, n1, n2, hks]
    · by_cases e1 : k = kb
      · simp only [if_pos e1]; simp [-Bool.exists_bool, -Int.not_le, -Int.not_lt, -getElem?_pos, -List.getD_eq_getElem?_getD, mapE, gk]
      · by_cases e2 : k = kr
        · simp only [if_neg e1, if_pos e2]; simp [-Bool.exists_bool, -Int.not_le, -Int.not_lt, -getElem?_pos, -List.getD_eq_getElem?_getD, mapE, gk]
        · simp only [if_neg e1, if_neg e2]
  have ua : ∀ (x : List Ce) k, upMut (fun j => if j = 0 then kb else kr) (fun k => if k = kb then some 0 else if k = kr then some 1 else none) s (aN d x) k = upAdd kb kr s d x k := fun x k => by
    unfold upMut upAdd
    obtain ⟨a, b⟩ := k
    split
    · rename_i hks
      simp only at hks
      subst hks
      have n1 : (a, b) ≠ kb := fun e => hs.1 (by rw [← e])
      have n2 : (a, b) ≠ kr := fun e => hs.2 (by rw [← e])
      by_cases hb0 : b = 0
      · subst hb0; simp [-Bool.exists_bool, -Int.not_le, -Int.not_lt, -getElem?_pos, -List.getD_eq_getElem?_getD, mapE]
      · simp [-Bool.exists_bool, -Int.not_le, -Int.not_lt, -getElem?_pos, -List.getD_eq_getElem?_getD, n1, n2, hb0]
    · rename_i hks
      simp only at hks
      have e0 : ¬ (a, b) = (s, 0) := fun e => hks (by injection e)
      by_cases e1 : (a, b) = kb
      · simp only [if_neg e0, if_pos e1]; simp [-Bool.exists_bool, -Int.not_le, -Int.not_lt, -getElem?_pos, -List.getD_eq_getElem?_getD, mapE, gk]
      · by_cases e2 : (a, b) = kr
        · simp only [if_neg e0, if_neg e1, if_pos e2]; simp [-Bool.exists_bool, -Int.not_le, -Int.not_lt, -getElem?_pos, -List.getD_eq_getElem?_getD]
        · simp only [if_neg e0, if_neg e1, if_neg e2]
  have hmain := addCell d cs c hl20 h12
  cases hq : addC cs c with
  | none =>
    rw [aOut_none hq] at hmain
    refine base hmain (fun k e h => ?_) (by rw [funext um]; exact k0 hq)
    have h := hl_mem h
    simp [-Bool.exists_bool, -Int.not_le, -Int.not_lt, -getElem?_pos, -List.getD_eq_getElem?_getD] at h
    rcases h with ⟨rfl, rfl⟩ | ⟨rfl, rfl⟩ <;> simp [-Bool.exists_bool, -Int.not_le, -Int.not_lt, -getElem?_pos, -List.getD_eq_getElem?_getD]
  | some x =>
    rcases aOut_some hq with ⟨rfl, e⟩ | ⟨hx, e⟩
    · rw [e] at hmain
      refine base hmain (fun k e h => ?_) (by rw [funext um]; exact k1 hq)
      have h := hl_mem h
      simp [-Bool.exists_bool, -Int.not_le, -Int.not_lt, -getElem?_pos, -List.getD_eq_getElem?_getD] at h
      rcases h with ⟨rfl, rfl⟩ | ⟨rfl, rfl⟩ <;> simp [-Bool.exists_bool, -Int.not_le, -Int.not_lt, -getElem?_pos, -List.getD_eq_getElem?_getD]
    · rw [e] at hmain
      refine base hmain (fun k e h => ?_) (by rw [funext (ua x)]; exact k2 x hq hx)
      have h := hl_mem h
      simp [-Bool.exists_bool, -Int.not_le, -Int.not_lt, -getElem?_pos, -List.getD_eq_getElem?_getD] at h
      rcases h with ⟨rfl, rfl⟩ | ⟨rfl, rfl⟩ <;> simp [-Bool.exists_bool, -Int.not_le, -Int.not_lt, -getElem?_pos, -List.getD_eq_getElem?_getD]
theorem neatF (c : Ce) : Cn Tryz.prog 76 [C1 c.1 c.2] (D2 (c.1, c.2, true)) hemp := by
  refine Cn.of [] mixed Tryz.func76 rfl Tryz.call76 (by kernel_rfl) rfl ?_
  simp -implicitDefEqProofs -dsimp +contextual [-Bool.exists_bool, -Int.not_le, -Int.not_lt, -getElem?_pos, -List.getD_eq_getElem?_getD, Tryz.f76]
  exact RLe.pure 3 (by simp [-Bool.exists_bool, -Int.not_le, -Int.not_lt, -getElem?_pos, -List.getD_eq_getElem?_getD])
theorem mapCells (d : Int) (L : List Ce) (h12 : L.length ≤ 12) (hok : ∀ c ∈ L, okC d c) : Cn Tryz.prog 75 [R1 d L, .fn 76 []] (RD (optR d (neatGo L []))) hemp := by
  refine Cn.of [] mixed Tryz.func75 rfl Tryz.call75 (by kernel_rfl) rfl ?_
  simp -implicitDefEqProofs -dsimp +contextual [-Bool.exists_bool, -Int.not_le, -Int.not_lt, -getElem?_pos, -List.getD_eq_getElem?_getD, Tryz.f75]
  refine WP.loop mixed [] (fun p : Nat × List Ce => ⟨tl [(1, .fn 76 []), (4, .ptr (1, 0) 0), (6, .ptr (2, 0) 0), (16, Cs L), (17, I L.length), (18, I p.1)], hl [((1, 0), .box [I 0, .nil]), ((2, 0), .box [I d, .ref (3, 0) p.2.length]), ((3, 0), .row 26 p.2.length (dl (csD p.2)))], 4⟩) (fun p => p.1 ≤ L.length ∧ okCs d p.2 ∧ neatGo L [] = neatGo (L.drop p.1) p.2) (fun p => L.length - p.1) (0, []) (by kernel_rfl) ?_ ?_ ?_
  · refine Le.trans (Le.nilBox (7, 0) 1 26 (c := [I d, .nil]) (by simp [-Bool.exists_bool, -Int.not_le, -Int.not_lt, -getElem?_pos, -List.getD_eq_getElem?_getD, setH]) rfl) (Le.told [((1, 0), (1, 0)), ((2, 0), (7, 0)), ((3, 0), (13, 0))] ?_ ?_ ?_) <;> simp [-Bool.exists_bool, -Int.not_le, -Int.not_lt, -getElem?_pos, -List.getD_eq_getElem?_getD, setH, ELe]
  · exact ⟨Nat.zero_le _, ⟨by simp [-Bool.exists_bool, -Int.not_le, -Int.not_lt, -getElem?_pos, -List.getD_eq_getElem?_getD], by simp [-Bool.exists_bool, -Int.not_le, -Int.not_lt, -getElem?_pos, -List.getD_eq_getElem?_getD]⟩, rfl⟩
  · rintro ⟨i, acc⟩ ⟨hi, ha, he⟩
    simp only at hi ha he
    by_cases h : i < L.length
    · have hcc := hok _ (nth_mem h)
      rw [nth_drop h, neatGo] at he
      simp -implicitDefEqProofs -dsimp +contextual [-Bool.exists_bool, -Int.not_le, -Int.not_lt, -getElem?_pos, -List.getD_eq_getElem?_getD, h]
      refine CallJ.pure (neatF (nth L i)) rfl (by simp [-Bool.exists_bool, -Int.not_le, -Int.not_lt, -getElem?_pos, -List.getD_eq_getElem?_getD]) ?_
      simp -implicitDefEqProofs -dsimp +contextual [-Bool.exists_bool, -Int.not_le, -Int.not_lt, -getElem?_pos, -List.getD_eq_getElem?_getD, h]
      refine callAdd (2, 0) (3, 0) d acc (nth L i) (by have := okC_len hcc; omega) ha.1 (by simp [-Bool.exists_bool, -Int.not_le, -Int.not_lt, -getElem?_pos, -List.getD_eq_getElem?_getD, setH]) (by simp [-Bool.exists_bool, -Int.not_le, -Int.not_lt, -getElem?_pos, -List.getD_eq_getElem?_getD, setH]) (by simp [-Bool.exists_bool, -Int.not_le, -Int.not_lt, -getElem?_pos, -List.getD_eq_getElem?_getD]) (by simp [-Bool.exists_bool, -Int.not_le, -Int.not_lt, -getElem?_pos, -List.getD_eq_getElem?_getD]) (by simp [-Bool.exists_bool, -Int.not_le, -Int.not_lt, -getElem?_pos, -List.getD_eq_getElem?_getD]) ?_ ?_ ?_
      · intro hq
        simp -implicitDefEqProofs -dsimp +contextual [-Bool.exists_bool, -Int.not_le, -Int.not_lt, -getElem?_pos, -List.getD_eq_getElem?_getD, h]
        rw [hq, Option.bind_none] at he
        exact RLe.pure 2 (by rw [he]; simp [-Bool.exists_bool, -Int.not_le, -Int.not_lt, -getElem?_pos, -List.getD_eq_getElem?_getD, optR, csD])
      · intro hq
        simp -implicitDefEqProofs -dsimp +contextual [-Bool.exists_bool, -Int.not_le, -Int.not_lt, -getElem?_pos, -List.getD_eq_getElem?_getD, h]
        rw [hq, Option.bind_some] at he
        refine ⟨i + 1, acc, ⟨h, ha, he⟩, by omega, ?_⟩
        rw [wr (by omega) (by omega)]
        refine Le.told [] ?_ ?_ ?_ <;> simp [-Bool.exists_bool, -Int.not_le, -Int.not_lt, -getElem?_pos, -List.getD_eq_getElem?_getD]
      · intro x hq hx
        simp -implicitDefEqProofs -dsimp +contextual [-Bool.exists_bool, -Int.not_le, -Int.not_lt, -getElem?_pos, -List.getD_eq_getElem?_getD, h]
        rw [hq, Option.bind_some] at he
        refine ⟨i + 1, x, ⟨h, addC_ok hcc.1 ha hq, he⟩, by omega, ?_⟩
        rw [wr (by omega) (by omega)]
        refine Le.told [((3, 0), (22, 0))] ?_ ?_ ?_ <;> simp [-Bool.exists_bool, -Int.not_le, -Int.not_lt, -getElem?_pos, -List.getD_eq_getElem?_getD]
    · rw [drop_nil (by omega), neatGo] at he
      simp -implicitDefEqProofs -dsimp +contextual [-Bool.exists_bool, -Int.not_le, -Int.not_lt, -getElem?_pos, -List.getD_eq_getElem?_getD, h]
      exact RLe.pure 3 (by rw [he]; simp [-Bool.exists_bool, -Int.not_le, -Int.not_lt, -getElem?_pos, -List.getD_eq_getElem?_getD, optR])
theorem iNeatRegion (d : Int) (L : List Ce) (h20 : L.length ≤ 1048576) (hc : ∀ c ∈ L, c.2.length ≤ 1048576) : Cn Tryz.prog 28 [R1 d L] (RD (neatD d L)) hemp := by
  refine Cn.of [] mixed Tryz.func28 rfl Tryz.call28 (by kernel_rfl) rfl ?_
  simp -implicitDefEqProofs -dsimp +contextual [-Bool.exists_bool, -Int.not_le, -Int.not_lt, -getElem?_pos, -List.getD_eq_getElem?_getD, Tryz.f28]
  refine CallJ.pure (iIsRegion d L h20 hc) rfl (by simp [-Bool.exists_bool, -Int.not_le, -Int.not_lt, -getElem?_pos, -List.getD_eq_getElem?_getD]) ?_
  simp -implicitDefEqProofs -dsimp +contextual [-Bool.exists_bool, -Int.not_le, -Int.not_lt, -getElem?_pos, -List.getD_eq_getElem?_getD]
  refine ⟨fun hr => ?_, fun hr => RLe.pure 2 (by simp [-Bool.exists_bool, -Int.not_le, -Int.not_lt, -getElem?_pos, -List.getD_eq_getElem?_getD, neatD, hr, csD])⟩
  obtain ⟨hd, h12, hok⟩ := isRe_ok hr
  rw [neatD, if_pos hr]
  refine CallJ.pure (mapCells d L h12 hok) rfl (by simp [-Bool.exists_bool, -Int.not_le, -Int.not_lt, -getElem?_pos, -List.getD_eq_getElem?_getD]) ?_
  generalize optR d (neatGo L []) = q
  obtain ⟨q1, q2, q3⟩ := q
  simp -implicitDefEqProofs -dsimp +contextual [-Bool.exists_bool, -Int.not_le, -Int.not_lt, -getElem?_pos, -List.getD_eq_getElem?_getD]
  exact RLe.pure 3 (by simp [-Bool.exists_bool, -Int.not_le, -Int.not_lt, -getElem?_pos, -List.getD_eq_getElem?_getD])
end Go.Proofs.YtjknjekemolndaaGreat.ZL
namespace Go.Proofs.YtjknjekemolndaaGreat.ZL
open Go Go.Proofs.YtjknjekemolndaaGreat.Abs Go.Proofs.YtjknjekemolndaaGreat.Abs.Pl Go.RowKit Go.Proofs
set_option linter.unusedVariables false
set_option linter.unusedSimpArgs false
set_option maxRecDepth 100000
theorem iWithout (d : Int) (cs : List Ce) (x : List At) (hx2 : isCe d x = true) (hs : okCs d cs) : Cn Tryz.prog 115 [R1 d cs, C1 d x] (RD (optR d (lessOut d x cs []))) hemp := by
  refine Cn.of [0] mixed Tryz.func115 rfl Tryz.call115 (by kernel_rfl) rfl ?_
  have hd := isCe_d hx2
  have hlen := isCe_l hx2
  have hx := isCe_a hx2
  simp -implicitDefEqProofs -dsimp +contextual [-Bool.exists_bool, -Int.not_le, -Int.not_lt, -getElem?_pos, -List.getD_eq_getElem?_getD, Tryz.f115]
  refine WP.loop mixed [0] (fun p : Nat × List Ce => ⟨tl [(2, .ptr (0, 0) 0), (3, .ptr (1, 0) 0), (4, .ptr (2, 0) 0), (6, .ptr (3, 0) 0), (20, Cs cs), (21, I cs.length), (22, I p.1)], hl [((0, 0), .box [I d, Cs cs]), ((1, 0), .box [I d, As x]), ((2, 0), .box [I 0, .nil]), ((3, 0), .box [I d, .ref (4, 0) p.2.length]), ((4, 0), .row 26 p.2.length (dl (csD p.2)))], 5⟩) (fun p => p.1 ≤ cs.length ∧ okCs d p.2 ∧ lessOut d x cs [] = lessOut d x (cs.drop p.1) p.2) (fun p => cs.length - p.1) (0, []) (by kernel_rfl) ?_ ?_ ?_
  · refine Le.trans (Le.nilBox (8, 0) 1 26 (c := [I d, .nil]) (by simp [-Bool.exists_bool, -Int.not_le, -Int.not_lt, -getElem?_pos, -List.getD_eq_getElem?_getD, setH]) rfl) (Le.told [((3, 0), (8, 0)), ((4, 0), (14, 0))] ?_ ?_ ?_) <;> simp [-Bool.exists_bool, -Int.not_le, -Int.not_lt, -getElem?_pos, -List.getD_eq_getElem?_getD, setH, ELe]
  · exact ⟨Nat.zero_le _, ⟨by simp [-Bool.exists_bool, -Int.not_le, -Int.not_lt, -getElem?_pos, -List.getD_eq_getElem?_getD], by simp [-Bool.exists_bool, -Int.not_le, -Int.not_lt, -getElem?_pos, -List.getD_eq_getElem?_getD]⟩, rfl⟩
  · rintro ⟨i, acc⟩ ⟨hi, ha, he⟩
    simp only at hi ha he
    by_cases h : i < cs.length
    · have h12 := hs.1
      have hcc := hs.2 _ (nth_mem h)
      rw [nth_drop h, lessOut] at he
      simp -implicitDefEqProofs -dsimp +contextual [-Bool.exists_bool, -Int.not_le, -Int.not_lt, -getElem?_pos, -List.getD_eq_getElem?_getD, h]
      refine WP.loop mixed [0] (fun p : Nat × List Ce => ⟨tl [(2, .ptr (0, 0) 0), (3, .ptr (1, 0) 0), (4, .ptr (2, 0) 0), (6, .ptr (3, 0) 0), (8, .ptr (5, 0) 0), (20, Cs cs), (21, I cs.length), (22, I i), (27, As x), (28, I x.length), (29, I p.1)], hl [((0, 0), .box [I d, Cs cs]), ((1, 0), .box [I d, As x]), ((2, 0), .box [I 0, .nil]), ((3, 0), .box [I d, .ref (4, 0) p.2.length]), ((4, 0), .row 26 p.2.length (dl (csD p.2))), ((5, 0), .box (cV (nth cs i)))], 6⟩) (fun p => p.1 ≤ x.length ∧ okCs d p.2 ∧ lessOut d x cs [] = (lessIn d (nth cs i) x (x.length - p.1) p.2).bind (lessOut d x (cs.drop (i + 1)))) (fun p => x.length - p.1) (0, acc) (by kernel_rfl) ?_ ?_ ?_
      · refine Le.told [((5, 0), (8, 0))] ?_ ?_ ?_ <;> simp [-Bool.exists_bool, -Int.not_le, -Int.not_lt, -getElem?_pos, -List.getD_eq_getElem?_getD, setH]
      · exact ⟨Nat.zero_le _, ha, by rw [he]; rfl⟩
      · rintro ⟨k, ac⟩ ⟨hk, hac, hek⟩
        simp only at hk hac hek
        by_cases hkl : k < x.length
        · simp -implicitDefEqProofs -dsimp +contextual [-Bool.exists_bool, -Int.not_le, -Int.not_lt, -getElem?_pos, -List.getD_eq_getElem?_getD, h, hkl]
          have hna : negAt (nth x k).1 (nth x k).2.1 (nth x k).2.2 = ((negA (nth x k)).1, (negA (nth x k)).2.1, (negA (nth x k)).2.2, true) := by rw [negAt, if_pos (hx _ (nth_mem hkl)).1]; rfl
          have hN := iNegateAtom (nth x k)
          rw [hna] at hN
          refine CallJ.pure hN rfl (by simp [-Bool.exists_bool, -Int.not_le, -Int.not_lt, -getElem?_pos, -List.getD_eq_getElem?_getD]) ?_
          simp -implicitDefEqProofs -dsimp +contextual [-Bool.exists_bool, -Int.not_le, -Int.not_lt, -getElem?_pos, -List.getD_eq_getElem?_getD, h, hkl]
          have hmin : min k x.length = k := by omega
          refine ⟨by omega, ⟨by omega, by omega, by simp [-Bool.exists_bool, -Int.not_le, -Int.not_lt, -getElem?_pos, -List.getD_eq_getElem?_getD, maxLen]; omega⟩, ⟨by omega, by simp [-Bool.exists_bool, -Int.not_le, -Int.not_lt, -getElem?_pos, -List.getD_eq_getElem?_getD, maxLen]; omega⟩, Quiet.of [2] (by kernel_rfl) (by simp [-Bool.exists_bool, -Int.not_le, -Int.not_lt, -getElem?_pos, -List.getD_eq_getElem?_getD, allP, offB]), Quiet.of [] (by kernel_rfl) (by simp [-Bool.exists_bool, -Int.not_le, -Int.not_lt, -getElem?_pos, -List.getD_eq_getElem?_getD, allP, offB]), ?_⟩
          have hpl : (x.take k ++ [negA (nth x k)]).length = k + 1 := by simp [-Bool.exists_bool, -Int.not_le, -Int.not_lt, -getElem?_pos, -List.getD_eq_getElem?_getD]; omega
          have hpd : asD (x.take k ++ [negA (nth x k)]) = asD (x.take k) ++ [D.sl (negA (nth x k)).1.length ((negA (nth x k)).1.map (D.int IntKind.i64)), D.int IntKind.i64 (negA (nth x k)).2.1, D.bool (negA (nth x k)).2.2] := by rw [asD_append]; simp [-Bool.exists_bool, -Int.not_le, -Int.not_lt, -getElem?_pos, -List.getD_eq_getElem?_getD, asD, aD]
          have hM := iMeetCellsW (nth cs i) (partC d x k) (by have := okC_len hcc; omega) (by show (x.take k ++ [negA (nth x k)]).length ≤ 1048576; omega)
          have hmo := meetC_ok (a := nth cs i) (b := partC d x k)
          obtain ⟨n, hn⟩ : ∃ n, x.length - k = n + 1 := ⟨x.length - k - 1, by omega⟩
          have hkn : x.length - (n + 1) = k := by omega
          rw [hn, lessIn, hkn] at hek
          have hkn2 : n = x.length - (k + 1) := by omega
          generalize hgen : meetC (nth cs i) (partC d x k) = q at hM hmo hek
          obtain ⟨q1, q2, q3⟩ := q
          simp only at hmo hek
          refine CallJ.frz (t := 66) (n := k + 1) (c := dl (asD (x.take k ++ [negA (nth x k)]))) (c' := asD (x.take k ++ [negA (nth x k)])) (33, 0) hM (by simp [-Bool.exists_bool, -Int.not_le, -Int.not_lt, -getElem?_pos, -List.getD_eq_getElem?_getD, setH, hpd]) (dl_asDs _) (ks := [(33, 0)]) (by simp [-Bool.exists_bool, -Int.not_le, -Int.not_lt, -getElem?_pos, -List.getD_eq_getElem?_getD, lendVs, lendV, setH, partC, hpl, hmin]) (by simp [-Bool.exists_bool, -Int.not_le, -Int.not_lt, -getElem?_pos, -List.getD_eq_getElem?_getD]) ?_
          simp -implicitDefEqProofs -dsimp +contextual [-Bool.exists_bool, -Int.not_le, -Int.not_lt, -getElem?_pos, -List.getD_eq_getElem?_getD, h, hkl]
          refine ⟨fun hq => ?_, fun hq => ?_⟩
          · rw [if_pos hq] at hek
            obtain ⟨rfl, hq2⟩ := hmo hq
            rw [hcc.1] at hq2
            have hqc : okC d ((nth cs i).1, q2) := ⟨hcc.1, hq2⟩
            refine callAdd (3, 0) (4, 0) d ac ((nth cs i).1, q2) (by have := isCe_l hq2; show q2.length ≤ 1048576; omega) hac.1 (by simp [-Bool.exists_bool, -Int.not_le, -Int.not_lt, -getElem?_pos, -List.getD_eq_getElem?_getD, setH]) (by simp [-Bool.exists_bool, -Int.not_le, -Int.not_lt, -getElem?_pos, -List.getD_eq_getElem?_getD, setH]) (by simp [-Bool.exists_bool, -Int.not_le, -Int.not_lt, -getElem?_pos, -List.getD_eq_getElem?_getD]) (by simp [-Bool.exists_bool, -Int.not_le, -Int.not_lt, -getElem?_pos, -List.getD_eq_getElem?_getD]) (by simp [-Bool.exists_bool, -Int.not_le, -Int.not_lt, -getElem?_pos, -List.getD_eq_getElem?_getD]) ?_ ?_ ?_
            · intro ha
              simp -implicitDefEqProofs -dsimp +contextual [-Bool.exists_bool, -Int.not_le, -Int.not_lt, -getElem?_pos, -List.getD_eq_getElem?_getD, h, hkl, hq]
              rw [ha, Option.bind_none, Option.bind_none] at hek
              exact RLe.pure 2 (by rw [hek]; simp [-Bool.exists_bool, -Int.not_le, -Int.not_lt, -getElem?_pos, -List.getD_eq_getElem?_getD, optR, csD])
            · intro ha
              simp -implicitDefEqProofs -dsimp +contextual [-Bool.exists_bool, -Int.not_le, -Int.not_lt, -getElem?_pos, -List.getD_eq_getElem?_getD, h, hkl, hq]
              rw [ha, Option.bind_some, hkn2] at hek
              refine ⟨k + 1, ac, ⟨hkl, hac, hek⟩, by omega, ?_⟩
              rw [wr (by omega) (by omega)]
              refine Le.told [] ?_ ?_ ?_ <;> simp [-Bool.exists_bool, -Int.not_le, -Int.not_lt, -getElem?_pos, -List.getD_eq_getElem?_getD]
            · intro y ha hy
              simp -implicitDefEqProofs -dsimp +contextual [-Bool.exists_bool, -Int.not_le, -Int.not_lt, -getElem?_pos, -List.getD_eq_getElem?_getD, h, hkl, hq]
              rw [ha, Option.bind_some, hkn2] at hek
              refine ⟨k + 1, y, ⟨hkl, addC_ok hqc.1 hac ha, hek⟩, by omega, ?_⟩
              rw [wr (by omega) (by omega)]
              refine Le.told [((4, 0), (50, 0))] ?_ ?_ ?_ <;> simp [-Bool.exists_bool, -Int.not_le, -Int.not_lt, -getElem?_pos, -List.getD_eq_getElem?_getD]
          · rw [if_neg (by simp [-Bool.exists_bool, -Int.not_le, -Int.not_lt, -getElem?_pos, -List.getD_eq_getElem?_getD, hq]), Option.bind_none] at hek
            exact RLe.pure 2 (by rw [hek]; simp [-Bool.exists_bool, -Int.not_le, -Int.not_lt, -getElem?_pos, -List.getD_eq_getElem?_getD, optR, csD])
        · rw [show x.length - k = 0 by omega, lessIn, Option.bind_some] at hek
          simp -implicitDefEqProofs -dsimp +contextual [-Bool.exists_bool, -Int.not_le, -Int.not_lt, -getElem?_pos, -List.getD_eq_getElem?_getD, h, hkl]
          refine ⟨i + 1, ac, ⟨h, hac, hek⟩, by omega, ?_⟩
          rw [wr (by omega) (by omega)]
          refine Le.told [] ?_ ?_ ?_ <;> simp [-Bool.exists_bool, -Int.not_le, -Int.not_lt, -getElem?_pos, -List.getD_eq_getElem?_getD]
    · rw [drop_nil (by omega), lessOut] at he
      simp -implicitDefEqProofs -dsimp +contextual [-Bool.exists_bool, -Int.not_le, -Int.not_lt, -getElem?_pos, -List.getD_eq_getElem?_getD, h]
      exact RLe.pure 3 (by rw [he]; simp [-Bool.exists_bool, -Int.not_le, -Int.not_lt, -getElem?_pos, -List.getD_eq_getElem?_getD, optR])
theorem iDifferenceOf (d : Int) (A : List Ce) (e : Int) (B : List Ce) (hA : A.length ≤ 1048576) (hAc : ∀ c ∈ A, c.2.length ≤ 1048576) (hB : B.length ≤ 1048576) (hBc : ∀ c ∈ B, c.2.length ≤ 1048576) : Cn Tryz.prog 67 [R1 d A, R1 e B] (RD (diffD d A e B)) hemp := by
  refine Cn.of [0] mixed Tryz.func67 rfl Tryz.call67 (by kernel_rfl) rfl ?_
  simp -implicitDefEqProofs -dsimp +contextual [-Bool.exists_bool, -Int.not_le, -Int.not_lt, -getElem?_pos, -List.getD_eq_getElem?_getD, Tryz.f67]
  have no : ∀ {H : Store}, diffD d A e B = (0, [], false) → RLe Tryz.prog H (V.tup [V.agg [V.d (D.int IntKind.i64 0), V.nil], V.d (D.bool false)]) (RD (diffD d A e B)) hemp := fun h => by
    rw [h]
    exact RLe.pure 2 (by simp [-Bool.exists_bool, -Int.not_le, -Int.not_lt, -getElem?_pos, -List.getD_eq_getElem?_getD, csD])
  refine CallJ.pure (iIsRegion d A hA hAc) rfl (by simp [-Bool.exists_bool, -Int.not_le, -Int.not_lt, -getElem?_pos, -List.getD_eq_getElem?_getD]) ?_
  simp -implicitDefEqProofs -dsimp +contextual [-Bool.exists_bool, -Int.not_le, -Int.not_lt, -getElem?_pos, -List.getD_eq_getElem?_getD]
  refine ⟨fun h1 => ?_, fun h1 => no (by rw [diffD, if_neg (by simp [-Bool.exists_bool, -Int.not_le, -Int.not_lt, -getElem?_pos, -List.getD_eq_getElem?_getD, h1])])⟩
  refine CallJ.pure (iIsRegion e B hB hBc) rfl (by simp [-Bool.exists_bool, -Int.not_le, -Int.not_lt, -getElem?_pos, -List.getD_eq_getElem?_getD]) ?_
  simp -implicitDefEqProofs -dsimp +contextual [-Bool.exists_bool, -Int.not_le, -Int.not_lt, -getElem?_pos, -List.getD_eq_getElem?_getD, h1]
  refine ⟨fun h2 => ⟨fun h3 => ?_, fun h3 => no (by rw [diffD, if_neg (fun h => h3 h.2.2)])⟩, fun h2 => no (by rw [diffD, if_neg (by simp [-Bool.exists_bool, -Int.not_le, -Int.not_lt, -getElem?_pos, -List.getD_eq_getElem?_getD, h2])])⟩
  subst h3
  obtain ⟨hd, h12, hok⟩ := isRe_ok h1
  obtain ⟨_, b12, bok⟩ := isRe_ok h2
  have hN := iNeatRegion d A hA hAc
  rw [neatD, if_pos h1] at hN
  cases hx : neatGo A [] with
  | none =>
    rw [hx] at hN
    refine CallJ.pure hN rfl (by simp [-Bool.exists_bool, -Int.not_le, -Int.not_lt, -getElem?_pos, -List.getD_eq_getElem?_getD]) ?_
    simp -implicitDefEqProofs -dsimp +contextual [-Bool.exists_bool, -Int.not_le, -Int.not_lt, -getElem?_pos, -List.getD_eq_getElem?_getD, optR, h1, h2]
    exact no (by rw [diffD, if_pos ⟨h1, h2, rfl⟩, hx]; rfl)
  | some x =>
    rw [hx] at hN
    have hxo := neatGo_ok hok ⟨by simp [-Bool.exists_bool, -Int.not_le, -Int.not_lt, -getElem?_pos, -List.getD_eq_getElem?_getD], by simp [-Bool.exists_bool, -Int.not_le, -Int.not_lt, -getElem?_pos, -List.getD_eq_getElem?_getD]⟩ hx
    have e0 : diffD d A d B = optR d (diffGo d B x) := by rw [diffD, if_pos ⟨h1, h2, rfl⟩, hx, Option.bind_some]
    rw [e0] at no ⊢
    refine CallJ.pure hN rfl (by simp [-Bool.exists_bool, -Int.not_le, -Int.not_lt, -getElem?_pos, -List.getD_eq_getElem?_getD]) ?_
    simp -implicitDefEqProofs -dsimp +contextual [-Bool.exists_bool, -Int.not_le, -Int.not_lt, -getElem?_pos, -List.getD_eq_getElem?_getD, optR, h1, h2]
    refine WP.loop mixed [0] (fun p : Nat × List Ce => ⟨tl [(3, .ptr (1, 0) 0), (4, .ptr (2, 0) 0), (6, .ptr (3, 0) 0), (37, Cs B), (38, I B.length), (39, I p.1)], hl [((1, 0), .box [I d, Cs B]), ((2, 0), .box [I 0, .nil]), ((3, 0), .box [I d, Cs p.2])], 4⟩) (fun p => p.1 ≤ B.length ∧ okCs d p.2 ∧ diffGo d B x = diffGo d (B.drop p.1) p.2) (fun p => B.length - p.1) (0, x) (by kernel_rfl) ?_ ?_ ?_
    · refine Le.told [((3, 0), (24, 0))] ?_ ?_ ?_ <;> simp [-Bool.exists_bool, -Int.not_le, -Int.not_lt, -getElem?_pos, -List.getD_eq_getElem?_getD, setH]
    · exact ⟨Nat.zero_le _, hxo, rfl⟩
    · rintro ⟨i, acc⟩ ⟨hi, ha, he⟩
      simp only at hi ha he
      by_cases h : i < B.length
      · have hcc := bok _ (nth_mem h)
        rw [nth_drop h, diffGo, lessD] at he
        simp -implicitDefEqProofs -dsimp +contextual [-Bool.exists_bool, -Int.not_le, -Int.not_lt, -getElem?_pos, -List.getD_eq_getElem?_getD, h]
        refine CallJ.pure (iMinimalCellW (nth B i).1 (nth B i).2 (by have := okC_len hcc; omega)) rfl (by simp [-Bool.exists_bool, -Int.not_le, -Int.not_lt, -getElem?_pos, -List.getD_eq_getElem?_getD]) ?_
        have ho : (minD (nth B i).1 (nth B i).2).2.2 = true → (minD (nth B i).1 (nth B i).2).1 = (nth B i).1 ∧ isCe (nth B i).1 (minD (nth B i).1 (nth B i).2).2.1 = true ∧ NF (nth B i).1 (minD (nth B i).1 (nth B i).2).2.1 := minD_ok
        unfold mC at he
        generalize minD (nth B i).1 (nth B i).2 = m at ho he ⊢
        obtain ⟨m1, m2, m3⟩ := m
        simp only at ho he ⊢
        simp -implicitDefEqProofs -dsimp +contextual [-Bool.exists_bool, -Int.not_le, -Int.not_lt, -getElem?_pos, -List.getD_eq_getElem?_getD, h]
        refine ⟨fun hf => ?_, fun hf => ?_⟩
        · obtain ⟨rfl, o2, o3⟩ := ho hf
          rw [if_pos hf] at he
          have hm1 := hcc.1
          rw [hm1] at o2
          have hW := iWithout d acc m2 o2 ha
          rw [← hm1] at hW
          cases hq : lessOut d m2 acc [] with
          | none =>
            rw [hq, Option.bind_none] at he
            rw [hm1, hq] at hW
            refine CallJ.pure hW (by rw [hm1]; rfl) (by simp [-Bool.exists_bool, -Int.not_le, -Int.not_lt, -getElem?_pos, -List.getD_eq_getElem?_getD]) ?_
            simp -implicitDefEqProofs -dsimp +contextual [-Bool.exists_bool, -Int.not_le, -Int.not_lt, -getElem?_pos, -List.getD_eq_getElem?_getD, h, optR]
            exact RLe.pure 2 (by rw [he]; simp [-Bool.exists_bool, -Int.not_le, -Int.not_lt, -getElem?_pos, -List.getD_eq_getElem?_getD, optR, csD])
          | some y =>
            rw [hq, Option.bind_some] at he
            rw [hm1, hq] at hW
            refine CallJ.pure hW (by rw [hm1]; rfl) (by simp [-Bool.exists_bool, -Int.not_le, -Int.not_lt, -getElem?_pos, -List.getD_eq_getElem?_getD]) ?_
            simp -implicitDefEqProofs -dsimp +contextual [-Bool.exists_bool, -Int.not_le, -Int.not_lt, -getElem?_pos, -List.getD_eq_getElem?_getD, h, optR]
            refine ⟨i + 1, y, ⟨h, lessOut_ok ha.2 ⟨by simp [-Bool.exists_bool, -Int.not_le, -Int.not_lt, -getElem?_pos, -List.getD_eq_getElem?_getD], by simp [-Bool.exists_bool, -Int.not_le, -Int.not_lt, -getElem?_pos, -List.getD_eq_getElem?_getD]⟩ hq, he⟩, by omega, ?_⟩
            rw [wr (by omega) (by omega)]
            refine Le.told [] ?_ ?_ ?_ <;> simp [-Bool.exists_bool, -Int.not_le, -Int.not_lt, -getElem?_pos, -List.getD_eq_getElem?_getD]
        · rw [if_neg (by simp [-Bool.exists_bool, -Int.not_le, -Int.not_lt, -getElem?_pos, -List.getD_eq_getElem?_getD, hf]), Option.bind_none] at he
          exact RLe.pure 2 (by rw [he]; simp [-Bool.exists_bool, -Int.not_le, -Int.not_lt, -getElem?_pos, -List.getD_eq_getElem?_getD, optR, csD])
      · rw [drop_nil (by omega), diffGo] at he
        simp -implicitDefEqProofs -dsimp +contextual [-Bool.exists_bool, -Int.not_le, -Int.not_lt, -getElem?_pos, -List.getD_eq_getElem?_getD, h]
        exact RLe.pure 3 (by rw [he]; simp [-Bool.exists_bool, -Int.not_le, -Int.not_lt, -getElem?_pos, -List.getD_eq_getElem?_getD, optR])
theorem iCoversRegion (d : Int) (A : List Ce) (e : Int) (B : List Ce) (hA : A.length ≤ 1048576) (hAc : ∀ c ∈ A, c.2.length ≤ 1048576) (hB : B.length ≤ 1048576) (hBc : ∀ c ∈ B, c.2.length ≤ 1048576) : Cn Tryz.prog 39 [R1 d A, R1 e B] (B2 (covR d A e B)) hemp := by
  refine Cn.of [0] mixed Tryz.func39 rfl Tryz.call39 (by kernel_rfl) rfl ?_
  simp -implicitDefEqProofs -dsimp +contextual [-Bool.exists_bool, -Int.not_le, -Int.not_lt, -getElem?_pos, -List.getD_eq_getElem?_getD, Tryz.f39]
  refine CallJ.pure (iDifferenceOf e B d A hB hBc hA hAc) rfl (by simp [-Bool.exists_bool, -Int.not_le, -Int.not_lt, -getElem?_pos, -List.getD_eq_getElem?_getD]) ?_
  unfold covR
  generalize diffD e B d A = q
  obtain ⟨q1, q2, q3⟩ := q
  cases q3
  · simp -implicitDefEqProofs -dsimp +contextual [-Bool.exists_bool, -Int.not_le, -Int.not_lt, -getElem?_pos, -List.getD_eq_getElem?_getD]
    exact RLe.pure 1 (by simp [-Bool.exists_bool, -Int.not_le, -Int.not_lt, -getElem?_pos, -List.getD_eq_getElem?_getD])
  · simp -implicitDefEqProofs -dsimp +contextual [-Bool.exists_bool, -Int.not_le, -Int.not_lt, -getElem?_pos, -List.getD_eq_getElem?_getD]
    exact RLe.pure 1 (by simp [-Bool.exists_bool, -Int.not_le, -Int.not_lt, -getElem?_pos, -List.getD_eq_getElem?_getD])
end Go.Proofs.YtjknjekemolndaaGreat.ZL
namespace Go.Proofs.YtjknjekemolndaaGreat.ZL
open Go Go.Proofs.YtjknjekemolndaaGreat.Abs Go.Proofs.YtjknjekemolndaaGreat.Abs.Pl Go.RowKit Go.Proofs
set_option linter.unusedVariables false
set_option linter.unusedSimpArgs false
set_option linter.unnecessarySimpa false
set_option maxRecDepth 100000
theorem diffGo_ok {d : Int} : ∀ {B A y : List Ce}, okCs d A → diffGo d B A = some y → okCs d y
  | [], A, y, ha, h => by obtain rfl := Option.some.inj h; exact ha
  | c :: B, A, y, ha, h => by
    obtain ⟨w, h1, h2⟩ := Option.bind_eq_some_iff.1 h
    exact diffGo_ok (lessD_ok ha h1) h2
theorem diffD_ok {d e : Int} {A B : List Ce} (h : (diffD d A e B).2.2 = true) : (diffD d A e B).1 = d ∧ okCs d (diffD d A e B).2.1 := by
  unfold diffD at h ⊢
  split at h
  · rename_i hc
    rw [if_pos hc]
    cases hn : neatGo A [] with
    | none => rw [hn] at h; cases h
    | some w =>
      rw [hn] at h
      simp only [Option.bind_some] at h ⊢
      cases hy : diffGo d B w with
      | none => rw [hy] at h; cases h
      | some y => exact ⟨rfl, diffGo_ok (neatGo_ok (isRe_ok hc.1).2.2 ⟨by simp [-Bool.exists_bool, -Int.not_le, -Int.not_lt, -getElem?_pos, -List.getD_eq_getElem?_getD], by simp [-Bool.exists_bool, -Int.not_le, -Int.not_lt, -getElem?_pos, -List.getD_eq_getElem?_getD]⟩ hn) hy⟩
  · cases h
theorem SplitRegion (d : Int) (L : List Ce) (h20 : L.length ≤ 1048576) (hc : ∀ c ∈ L, c.2.length ≤ 1048576) : Cn Tryz.prog 22 [R1 d L] (RD (splitD d L)) hemp := by
  refine Cn.of [0] mixed Tryz.func22 rfl Tryz.call22 (by kernel_rfl) rfl ?_
  simp -implicitDefEqProofs -dsimp +contextual [-Bool.exists_bool, -Int.not_le, -Int.not_lt, -getElem?_pos, -List.getD_eq_getElem?_getD, Tryz.f22]
  refine CallJ.pure (IsRegion d L h20 hc) rfl (by simp [-Bool.exists_bool, -Int.not_le, -Int.not_lt, -getElem?_pos, -List.getD_eq_getElem?_getD]) ?_
  simp -implicitDefEqProofs -dsimp +contextual [-Bool.exists_bool, -Int.not_le, -Int.not_lt, -getElem?_pos, -List.getD_eq_getElem?_getD]
  refine ⟨fun h1 => ?_, fun h1 => RLe.pure 2 (by rw [splitD, if_neg (by simp [-Bool.exists_bool, -Int.not_le, -Int.not_lt, -getElem?_pos, -List.getD_eq_getElem?_getD, h1])]; simp [-Bool.exists_bool, -Int.not_le, -Int.not_lt, -getElem?_pos, -List.getD_eq_getElem?_getD, csD])⟩
  obtain ⟨hd, h12, hok⟩ := isRe_ok h1
  have e0 : splitD d L = optR d (splitGo d L L.length []) := if_pos h1
  rw [e0]
  refine WP.loop mixed [0] (fun p : Nat × List Ce => ⟨tl [(1, .ptr (0, 0) 0), (2, .ptr (1, 0) 0), (4, .ptr (2, 0) 0), (5, I p.1)], hl [((0, 0), .box [I d, Cs L]), ((1, 0), .box [I 0, .nil]), ((2, 0), .box [I d, .ref (3, 0) p.2.length]), ((3, 0), .row 26 p.2.length (dl (csD p.2)))], 4⟩)
    (fun p => p.1 ≤ L.length ∧ p.2.length ≤ 12 ∧ splitGo d L L.length [] = splitGo d L (L.length - p.1) p.2) (fun p => L.length - p.1) (0, []) (by kernel_rfl) ?_ ?_ ?_
  · refine Le.trans (Le.nilBox (9, 0) 1 26 (c := [I d, .nil]) (by simp [-Bool.exists_bool, -Int.not_le, -Int.not_lt, -getElem?_pos, -List.getD_eq_getElem?_getD, setH]) rfl) (Le.told [((2, 0), (9, 0)), ((3, 0), (12, 0))] ?_ ?_ ?_) <;> simp [-Bool.exists_bool, -Int.not_le, -Int.not_lt, -getElem?_pos, -List.getD_eq_getElem?_getD, setH]
  · exact ⟨Nat.zero_le _, by simp [-Bool.exists_bool, -Int.not_le, -Int.not_lt, -getElem?_pos, -List.getD_eq_getElem?_getD], rfl⟩
  · rintro ⟨i, x⟩ ⟨hi, hx, he⟩
    simp only at hi hx he
    by_cases h : i < L.length
    · obtain ⟨k, hk⟩ : ∃ k, L.length - i = k + 1 := ⟨L.length - i - 1, by omega⟩
      have ek : L.length - (k + 1) = i := by omega
      rw [hk, splitGo, ek] at he
      have hti : (L.take i).length = i := by simp [-Bool.exists_bool, -Int.not_le, -Int.not_lt, -getElem?_pos, -List.getD_eq_getElem?_getD]; omega
      have hdo := csD_take L i
      have hD := DifferenceOf d [nth L i] d (L.take i) (by simp [-Bool.exists_bool, -Int.not_le, -Int.not_lt, -getElem?_pos, -List.getD_eq_getElem?_getD]) (by intro c hcm; rw [List.mem_singleton.1 hcm]; exact hc _ (nth_mem h)) (by omega) (fun c hcm => hc c (List.mem_of_mem_take hcm))
      have hok2 := @diffD_ok d d [nth L i] (L.take i)
      have hcl : ((L.take i).length : Int) = i := by omega
      simp -implicitDefEqProofs -dsimp +contextual [-Bool.exists_bool, -Int.not_le, -Int.not_lt, -getElem?_pos, -List.getD_eq_getElem?_getD, h]
      generalize diffD d [nth L i] d (L.take i) = y at *
      obtain ⟨y1, y2, y3⟩ := y
      simp only at he hok2
      have hR : R1 d (L.take i) = V.agg [I d, V.d (D.sl i (csD (L.take i)))] := by show V.agg [_, V.d (D.sl (L.take i).length _)] = _; rw [hti]
      rw [hR] at hD
      refine ⟨hi, ?_⟩
      refine CallJ.pure hD rfl (by simp [-Bool.exists_bool, -Int.not_le, -Int.not_lt, -getElem?_pos, -List.getD_eq_getElem?_getD]) ?_
      simp -implicitDefEqProofs -dsimp +contextual [-Bool.exists_bool, -Int.not_le, -Int.not_lt, -getElem?_pos, -List.getD_eq_getElem?_getD]
      refine ⟨Quiet.of [] (by kernel_rfl) (by simp [-Bool.exists_bool, -Int.not_le, -Int.not_lt, -getElem?_pos, -List.getD_eq_getElem?_getD, allP, offB]), ?_⟩
      cases y3 with
      | false =>
        rw [if_neg (by simp [-Bool.exists_bool, -Int.not_le, -Int.not_lt, -getElem?_pos, -List.getD_eq_getElem?_getD])] at he
        refine ⟨fun h => (by cases h), fun _ => ?_⟩
        rw [he]
        exact RLe.pure 2 (by simp [-Bool.exists_bool, -Int.not_le, -Int.not_lt, -getElem?_pos, -List.getD_eq_getElem?_getD, optR])
      | true =>
        have hy2 := (hok2 rfl).2.1
        have w1 : IntKind.wrap .i64 ((x.length : Int) + y2.length) = (x.length : Int) + y2.length := wr (by omega) (by omega)
        refine ⟨fun _ => ⟨fun hl => ?_, fun hl => ⟨⟨by omega, by simp [-Bool.exists_bool, -Int.not_le, -Int.not_lt, -getElem?_pos, -List.getD_eq_getElem?_getD, maxLen]; omega⟩, ?_⟩⟩, fun h => (by cases h)⟩
        · rw [w1] at hl
          rw [if_neg (by omega)] at he
          rw [he]
          exact RLe.pure 2 (by simp [-Bool.exists_bool, -Int.not_le, -Int.not_lt, -getElem?_pos, -List.getD_eq_getElem?_getD, optR])
        · rw [w1] at hl
          rw [if_pos ⟨rfl, by omega⟩] at he
          refine ⟨i + 1, x ++ y2, ⟨h, by simp [-Bool.exists_bool, -Int.not_le, -Int.not_lt, -getElem?_pos, -List.getD_eq_getElem?_getD]; omega, by rw [he, show L.length - (i + 1) = k by omega]⟩, by omega, ?_⟩
          rw [wr (x := (i : Int) + 1) (by omega) (by omega)]
          refine Le.told [((3, 0), (48, 0))] ?_ ?_ ?_ <;> simp [-Bool.exists_bool, -Int.not_le, -Int.not_lt, -getElem?_pos, -List.getD_eq_getElem?_getD, csD_append]
    · rw [show L.length - i = 0 by omega, splitGo] at he
      simp -implicitDefEqProofs -dsimp +contextual [-Bool.exists_bool, -Int.not_le, -Int.not_lt, -getElem?_pos, -List.getD_eq_getElem?_getD, h]
      rw [he]
      exact RLe.pure 3 (by simp [-Bool.exists_bool, -Int.not_le, -Int.not_lt, -getElem?_pos, -List.getD_eq_getElem?_getD, setH, optR])
end Go.Proofs.YtjknjekemolndaaGreat.ZL
namespace Go.Proofs.YtjknjekemolndaaGreat.ZL
open Go Go.Proofs.YtjknjekemolndaaGreat.Abs Go.Proofs.YtjknjekemolndaaGreat.Abs.Pl Go.RowKit Go.Proofs
set_option linter.unusedVariables false
set_option linter.unusedSimpArgs false
set_option linter.unnecessarySimpa false
set_option maxRecDepth 100000
theorem oneCell (c : Ce) : Cn Tryz.prog 68 [C1 c.1 c.2] (R1 c.1 [c]) hemp := by
  refine Cn.of [] mixed Tryz.func68 rfl Tryz.call68 (by kernel_rfl) rfl ?_
  simp -implicitDefEqProofs -dsimp +contextual [-Bool.exists_bool, -Int.not_le, -Int.not_lt, -getElem?_pos, -List.getD_eq_getElem?_getD, Tryz.f68]
  exact RLe.pure 3 (by simp [-Bool.exists_bool, -Int.not_le, -Int.not_lt, -getElem?_pos, -List.getD_eq_getElem?_getD, setH, csD, cD])
theorem iSplitRegion (d : Int) (L : List Ce) (h20 : L.length ≤ 1048576) (hc : ∀ c ∈ L, c.2.length ≤ 1048576) : Cn Tryz.prog 21 [R1 d L] (RD (splitD d L)) hemp := by
  refine Cn.of [0] mixed Tryz.func21 rfl Tryz.call21 (by kernel_rfl) rfl ?_
  simp -implicitDefEqProofs -dsimp +contextual [-Bool.exists_bool, -Int.not_le, -Int.not_lt, -getElem?_pos, -List.getD_eq_getElem?_getD, Tryz.f21]
  refine CallJ.pure (iIsRegion d L h20 hc) rfl (by simp [-Bool.exists_bool, -Int.not_le, -Int.not_lt, -getElem?_pos, -List.getD_eq_getElem?_getD]) ?_
  simp -implicitDefEqProofs -dsimp +contextual [-Bool.exists_bool, -Int.not_le, -Int.not_lt, -getElem?_pos, -List.getD_eq_getElem?_getD]
  refine ⟨fun h1 => ?_, fun h1 => RLe.pure 2 (by rw [splitD, if_neg (by simp [-Bool.exists_bool, -Int.not_le, -Int.not_lt, -getElem?_pos, -List.getD_eq_getElem?_getD, h1])]; simp [-Bool.exists_bool, -Int.not_le, -Int.not_lt, -getElem?_pos, -List.getD_eq_getElem?_getD, csD])⟩
  obtain ⟨hd, h12, hok⟩ := isRe_ok h1
  have e0 : splitD d L = optR d (splitGo d L L.length []) := if_pos h1
  rw [e0]
  refine WP.loop mixed [0] (fun p : Nat × List Ce => ⟨tl [(1, .ptr (0, 0) 0), (2, .ptr (1, 0) 0), (4, .ptr (2, 0) 0), (18, Cs L), (19, I L.length), (20, I p.1)], hl [((0, 0), .box [I d, Cs L]), ((1, 0), .box [I 0, .nil]), ((2, 0), .box [I d, .ref (3, 0) p.2.length]), ((3, 0), .row 26 p.2.length (dl (csD p.2)))], 4⟩)
    (fun p => p.1 ≤ L.length ∧ p.2.length ≤ 12 ∧ splitGo d L L.length [] = splitGo d L (L.length - p.1) p.2) (fun p => L.length - p.1) (0, []) (by kernel_rfl) ?_ ?_ ?_
  · refine Le.trans (Le.nilBox (10, 0) 1 26 (c := [I d, .nil]) (by simp [-Bool.exists_bool, -Int.not_le, -Int.not_lt, -getElem?_pos, -List.getD_eq_getElem?_getD, setH]) rfl) (Le.told [((2, 0), (10, 0)), ((3, 0), (16, 0))] ?_ ?_ ?_) <;> simp [-Bool.exists_bool, -Int.not_le, -Int.not_lt, -getElem?_pos, -List.getD_eq_getElem?_getD, setH]
  · exact ⟨Nat.zero_le _, by simp [-Bool.exists_bool, -Int.not_le, -Int.not_lt, -getElem?_pos, -List.getD_eq_getElem?_getD], rfl⟩
  · rintro ⟨i, x⟩ ⟨hi, hx, he⟩
    simp only at hi hx he
    by_cases h : i < L.length
    · obtain ⟨k, hk⟩ : ∃ k, L.length - i = k + 1 := ⟨L.length - i - 1, by omega⟩
      have ek : L.length - (k + 1) = i := by omega
      rw [hk, splitGo, ek] at he
      have hti : (L.take i).length = i := by simp [-Bool.exists_bool, -Int.not_le, -Int.not_lt, -getElem?_pos, -List.getD_eq_getElem?_getD]; omega
      have hdo := csD_take L i
      have hD := iDifferenceOf d [nth L i] d (L.take i) (by simp [-Bool.exists_bool, -Int.not_le, -Int.not_lt, -getElem?_pos, -List.getD_eq_getElem?_getD]) (by intro c hcm; rw [List.mem_singleton.1 hcm]; exact hc _ (nth_mem h)) (by omega) (fun c hcm => hc c (List.mem_of_mem_take hcm))
      have hok2 := @diffD_ok d d [nth L i] (L.take i)
      have hcl : ((L.take i).length : Int) = i := by omega
      simp -implicitDefEqProofs -dsimp +contextual [-Bool.exists_bool, -Int.not_le, -Int.not_lt, -getElem?_pos, -List.getD_eq_getElem?_getD, h]
      refine CallJ.pure (oneCell (nth L i)) rfl (by simp [-Bool.exists_bool, -Int.not_le, -Int.not_lt, -getElem?_pos, -List.getD_eq_getElem?_getD]) ?_
      simp -implicitDefEqProofs -dsimp +contextual [-Bool.exists_bool, -Int.not_le, -Int.not_lt, -getElem?_pos, -List.getD_eq_getElem?_getD, h]
      refine ⟨hi, ?_⟩
      generalize diffD d [nth L i] d (L.take i) = y at *
      obtain ⟨y1, y2, y3⟩ := y
      simp only at he hok2
      have hR : R1 d (L.take i) = V.agg [I d, V.d (D.sl i (csD (L.take i)))] := by show V.agg [_, V.d (D.sl (L.take i).length _)] = _; rw [hti]
      have hR1 : R1 d [nth L i] = R1 (nth L i).1 [nth L i] := by rw [(hok _ (nth_mem h)).1]
      rw [hR, hR1] at hD
      refine CallJ.pure hD rfl (by simp [-Bool.exists_bool, -Int.not_le, -Int.not_lt, -getElem?_pos, -List.getD_eq_getElem?_getD]) ?_
      simp -implicitDefEqProofs -dsimp +contextual [-Bool.exists_bool, -Int.not_le, -Int.not_lt, -getElem?_pos, -List.getD_eq_getElem?_getD]
      refine ⟨Quiet.of [] (by kernel_rfl) (by simp [-Bool.exists_bool, -Int.not_le, -Int.not_lt, -getElem?_pos, -List.getD_eq_getElem?_getD, allP, offB]), ?_⟩
      cases y3 with
      | false =>
        rw [if_neg (by simp [-Bool.exists_bool, -Int.not_le, -Int.not_lt, -getElem?_pos, -List.getD_eq_getElem?_getD])] at he
        refine ⟨fun h => (by cases h), fun _ => ?_⟩
        rw [he]
        exact RLe.pure 2 (by simp [-Bool.exists_bool, -Int.not_le, -Int.not_lt, -getElem?_pos, -List.getD_eq_getElem?_getD, optR])
      | true =>
        have hy2 := (hok2 rfl).2.1
        have w1 : IntKind.wrap .i64 ((x.length : Int) + y2.length) = (x.length : Int) + y2.length := wr (by omega) (by omega)
        refine ⟨fun _ => ⟨fun hl => ?_, fun hl => ⟨⟨by omega, by simp [-Bool.exists_bool, -Int.not_le, -Int.not_lt, -getElem?_pos, -List.getD_eq_getElem?_getD, maxLen]; omega⟩, ?_⟩⟩, fun h => (by cases h)⟩
        · rw [w1] at hl
          rw [if_neg (by omega)] at he
          rw [he]
          exact RLe.pure 2 (by simp [-Bool.exists_bool, -Int.not_le, -Int.not_lt, -getElem?_pos, -List.getD_eq_getElem?_getD, optR])
        · rw [w1] at hl
          rw [if_pos ⟨rfl, by omega⟩] at he
          refine ⟨i + 1, x ++ y2, ⟨h, by simp [-Bool.exists_bool, -Int.not_le, -Int.not_lt, -getElem?_pos, -List.getD_eq_getElem?_getD]; omega, by rw [he, show L.length - (i + 1) = k by omega]⟩, by omega, ?_⟩
          rw [wr (x := (i : Int) + 1) (by omega) (by omega)]
          refine Le.told [((3, 0), (43, 0))] ?_ ?_ ?_ <;> simp [-Bool.exists_bool, -Int.not_le, -Int.not_lt, -getElem?_pos, -List.getD_eq_getElem?_getD, csD_append]
    · rw [show L.length - i = 0 by omega, splitGo] at he
      simp -implicitDefEqProofs -dsimp +contextual [-Bool.exists_bool, -Int.not_le, -Int.not_lt, -getElem?_pos, -List.getD_eq_getElem?_getD, h]
      rw [he]
      exact RLe.pure 3 (by simp [-Bool.exists_bool, -Int.not_le, -Int.not_lt, -getElem?_pos, -List.getD_eq_getElem?_getD, setH, optR])
end Go.Proofs.YtjknjekemolndaaGreat.ZL
namespace Go.Proofs.YtjknjekemolndaaGreat.ZL
open Go Go.Proofs.YtjknjekemolndaaGreat.Abs Go.Proofs.YtjknjekemolndaaGreat.Abs.Pl Go.RowKit Go.Proofs
set_option linter.unusedVariables false
set_option linter.unusedSimpArgs false
set_option linter.unnecessarySimpa false
set_option maxRecDepth 100000
def samR (d : Int) (A : List Ce) (e : Int) (B : List Ce) : Bool × Bool := if (covR d A e B).2 = true ∧ (covR e B d A).2 = true then ((covR d A e B).1 && (covR e B d A).1, true) else (false, false)
theorem iSameRegion (d : Int) (A : List Ce) (e : Int) (B : List Ce) (hA : A.length ≤ 1048576) (hAc : ∀ c ∈ A, c.2.length ≤ 1048576) (hB : B.length ≤ 1048576) (hBc : ∀ c ∈ B, c.2.length ≤ 1048576) : Cn Tryz.prog 23 [R1 d A, R1 e B] (B2 (samR d A e B)) hemp := by
  refine Cn.of [] mixed Tryz.func23 rfl Tryz.call23 (by kernel_rfl) rfl ?_
  simp -implicitDefEqProofs -dsimp +contextual [-Bool.exists_bool, -Int.not_le, -Int.not_lt, -getElem?_pos, -List.getD_eq_getElem?_getD, Tryz.f23]
  have h1 := iCoversRegion d A e B hA hAc hB hBc
  have h2 := iCoversRegion e B d A hB hBc hA hAc
  unfold samR
  generalize covR d A e B = x at *
  generalize covR e B d A = y at *
  obtain ⟨x1, x2⟩ := x
  obtain ⟨y1, y2⟩ := y
  refine CallJ.pure h1 rfl (by simp [-Bool.exists_bool, -Int.not_le, -Int.not_lt, -getElem?_pos, -List.getD_eq_getElem?_getD]) ?_
  simp -implicitDefEqProofs -dsimp +contextual [-Bool.exists_bool, -Int.not_le, -Int.not_lt, -getElem?_pos, -List.getD_eq_getElem?_getD]
  refine CallJ.pure h2 rfl (by simp [-Bool.exists_bool, -Int.not_le, -Int.not_lt, -getElem?_pos, -List.getD_eq_getElem?_getD]) ?_
  cases x2
  · simp -implicitDefEqProofs -dsimp +contextual [-Bool.exists_bool, -Int.not_le, -Int.not_lt, -getElem?_pos, -List.getD_eq_getElem?_getD]
    exact RLe.pure 2 (by simp [-Bool.exists_bool, -Int.not_le, -Int.not_lt, -getElem?_pos, -List.getD_eq_getElem?_getD])
  · cases y2
    · simp -implicitDefEqProofs -dsimp +contextual [-Bool.exists_bool, -Int.not_le, -Int.not_lt, -getElem?_pos, -List.getD_eq_getElem?_getD]
      exact RLe.pure 2 (by simp [-Bool.exists_bool, -Int.not_le, -Int.not_lt, -getElem?_pos, -List.getD_eq_getElem?_getD])
    · cases x1
      · simp -implicitDefEqProofs -dsimp +contextual [-Bool.exists_bool, -Int.not_le, -Int.not_lt, -getElem?_pos, -List.getD_eq_getElem?_getD]
        exact RLe.pure 2 (by simp [-Bool.exists_bool, -Int.not_le, -Int.not_lt, -getElem?_pos, -List.getD_eq_getElem?_getD])
      · simp -implicitDefEqProofs -dsimp +contextual [-Bool.exists_bool, -Int.not_le, -Int.not_lt, -getElem?_pos, -List.getD_eq_getElem?_getD]
        exact RLe.pure 2 (by simp [-Bool.exists_bool, -Int.not_le, -Int.not_lt, -getElem?_pos, -List.getD_eq_getElem?_getD])
theorem split_law {d : Int} {A : List Ce} (h : (splitD d A).2.2 = true) (hs : (samR d A (splitD d A).1 (splitD d A).2.1).2 = true) : (samR d A (splitD d A).1 (splitD d A).2.1).1 = true := by
  unfold samR at hs ⊢
  split at hs
  · rename_i hc
    rw [if_pos hc]
    have := split_same (splitD_sat h).1 hc.1 hc.2
    simp [-Bool.exists_bool, -Int.not_le, -Int.not_lt, -getElem?_pos, -List.getD_eq_getElem?_getD, this]
  · cases hs
theorem splitGo_ok {d : Int} {L : List Ce} : ∀ (n : Nat) {out y : List Ce}, okCs d out → splitGo d L n out = some y → okCs d y
  | 0, out, y, ho, h => by obtain rfl := Option.some.inj h; exact ho
  | n + 1, out, y, ho, h => by
    unfold splitGo at h
    split at h
    · rename_i hc
      have hk := (diffD_ok hc.1).2
      refine splitGo_ok n ⟨by simp [-Bool.exists_bool, -Int.not_le, -Int.not_lt, -getElem?_pos, -List.getD_eq_getElem?_getD]; omega, fun c hm => ?_⟩ h
      rcases List.mem_append.1 hm with hm | hm
      · exact ho.2 c hm
      · exact hk.2 c hm
    · cases h
theorem splitD_ok {d : Int} {L : List Ce} (h : (splitD d L).2.2 = true) : (splitD d L).1 = d ∧ okCs d (splitD d L).2.1 := by
  unfold splitD at h ⊢
  split at h
  · rename_i hc
    rw [if_pos hc]
    cases hy : splitGo d L L.length [] with
    | none => rw [hy] at h; cases h
    | some y => exact ⟨rfl, splitGo_ok _ ⟨by simp [-Bool.exists_bool, -Int.not_le, -Int.not_lt, -getElem?_pos, -List.getD_eq_getElem?_getD], by simp [-Bool.exists_bool, -Int.not_le, -Int.not_lt, -getElem?_pos, -List.getD_eq_getElem?_getD]⟩ hy⟩
  · cases h
theorem splitD_f {d : Int} {L : List Ce} (h : (splitD d L).2.2 = false) : splitD d L = (0, [], false) := by
  unfold splitD at h ⊢
  split
  · rename_i hc
    rw [if_pos hc] at h
    cases hy : splitGo d L L.length [] with
    | none => rfl
    | some y => rw [hy] at h; cases h
  · rfl
end Go.Proofs.YtjknjekemolndaaGreat.ZL
namespace Go.Proofs.YtjknjekemolndaaGreat.ZL
open Go Go.Proofs.YtjknjekemolndaaGreat.Abs Go.Proofs.YtjknjekemolndaaGreat.Abs.Pl Go.RowKit Go.Proofs
set_option linter.unusedVariables false
set_option linter.unusedSimpArgs false
set_option linter.unnecessarySimpa false
set_option maxRecDepth 100000
set_option maxHeartbeats 4000000
theorem lawSplit (cd : List Int) (hw : cd.length ≤ maxLen ∧ ∀ y ∈ cd, (Lit.int .u8 y).wf = true) : Cn Tryz.prog 4 [Bs cd] (B true) hemp := by
  refine Cn.of [0] mixed Tryz.func4 rfl Tryz.call4 (by kernel_rfl) rfl ?_
  simp -implicitDefEqProofs -dsimp +contextual [-Bool.exists_bool, -Int.not_le, -Int.not_lt, -getElem?_pos, -List.getD_eq_getElem?_getD, Tryz.f4]
  refine CallJ.pure (big cd) rfl (by simp [-Bool.exists_bool, -Int.not_le, -Int.not_lt, -getElem?_pos, -List.getD_eq_getElem?_getD]) ?_
  simp -implicitDefEqProofs -dsimp +contextual [-Bool.exists_bool, -Int.not_le, -Int.not_lt, -getElem?_pos, -List.getD_eq_getElem?_getD]
  refine ⟨fun hb => RLe.bb rfl, fun hb => ?_⟩
  have h20 : cd.length ≤ 1048576 := by omega
  have hx := (anR_ok cd (newC cd) (newC_ok cd)).1
  refine CallJ.pure (DrawSplitRegion cd h20) rfl (by simp [-Bool.exists_bool, -Int.not_le, -Int.not_lt, -getElem?_pos, -List.getD_eq_getElem?_getD]) ?_
  generalize (anR cd (newC cd)).1 = y at *
  obtain ⟨d, L⟩ := y
  have h100 : L.length ≤ 1048576 := by have := hx.1; simp only at this; omega
  have hLc : ∀ c ∈ L, c.2.length ≤ 1048576 := fun c hc => by have := (hx.2 c hc).1; omega
  simp -implicitDefEqProofs -dsimp +contextual [-Bool.exists_bool, -Int.not_le, -Int.not_lt, -getElem?_pos, -List.getD_eq_getElem?_getD]
  refine CallJ.pure (iSplitRegion d L h100 hLc) rfl (by simp [-Bool.exists_bool, -Int.not_le, -Int.not_lt, -getElem?_pos, -List.getD_eq_getElem?_getD]) ?_
  simp -implicitDefEqProofs -dsimp +contextual [-Bool.exists_bool, -Int.not_le, -Int.not_lt, -getElem?_pos, -List.getD_eq_getElem?_getD]
  refine CallJ.pure (SplitRegion d L h100 hLc) rfl (by simp [-Bool.exists_bool, -Int.not_le, -Int.not_lt, -getElem?_pos, -List.getD_eq_getElem?_getD]) ?_
  have fin : ∀ {H : Store}, RLe Tryz.prog H (V.d (D.bool true)) (B true) hemp := RLe.bb rfl
  cases hf : (splitD d L).2.2 with
  | false =>
    rw [splitD_f hf]
    simp -implicitDefEqProofs -dsimp +contextual [-Bool.exists_bool, -Int.not_le, -Int.not_lt, -getElem?_pos, -List.getD_eq_getElem?_getD]
    exact fin
  | true =>
    obtain ⟨hd1, hS⟩ := splitD_ok hf
    obtain ⟨_, hdis⟩ := splitD_sat hf
    have hlaw := split_law hf
    have hSc : ∀ c ∈ (splitD d L).2.1, c.2.length ≤ 1048576 := fun c hc => by have := okC_len (hS.2 c hc); omega
    have hS12 := hS.1
    have hSame := iSameRegion d L (splitD d L).1 (splitD d L).2.1 h100 hLc (by omega) hSc
    simp -implicitDefEqProofs -dsimp +contextual [-Bool.exists_bool, -Int.not_le, -Int.not_lt, -getElem?_pos, -List.getD_eq_getElem?_getD, hf]
    generalize samR d L (splitD d L).1 (splitD d L).2.1 = y at *
    generalize splitD d L = z at *
    obtain ⟨z1, S, z3⟩ := z
    obtain ⟨y1, y2⟩ := y
    simp only at hf hd1 hS hdis hlaw hSc hS12 hSame
    subst hf hd1
    refine CallJ.pure hSame rfl (by simp [-Bool.exists_bool, -Int.not_le, -Int.not_lt, -getElem?_pos, -List.getD_eq_getElem?_getD]) ?_
    simp -implicitDefEqProofs -dsimp +contextual [-Bool.exists_bool, -Int.not_le, -Int.not_lt, -getElem?_pos, -List.getD_eq_getElem?_getD]
    refine WP.loop mixed [0] (fun i : Nat => ⟨tl [(3, .ptr (5, 0) 0), (4, .ptr (12, 0) 0), (8, B y1), (9, B y2), (10, I i)], hl [((5, 0), .box [I z1, Cs L]), ((12, 0), .box [I z1, Cs S])], 13⟩)
      (fun i => i ≤ S.length) (fun i => S.length - i) 0 (by kernel_rfl) ?_ ?_ ?_
    · refine Le.told [] ?_ ?_ ?_ <;> simp [-Bool.exists_bool, -Int.not_le, -Int.not_lt, -getElem?_pos, -List.getD_eq_getElem?_getD, setH]
    · exact Nat.zero_le _
    · intro i hi
      by_cases h : i < S.length
      · simp -implicitDefEqProofs -dsimp +contextual [-Bool.exists_bool, -Int.not_le, -Int.not_lt, -getElem?_pos, -List.getD_eq_getElem?_getD, h]
        refine WP.loop mixed [0] (fun k : Nat => ⟨tl [(3, .ptr (5, 0) 0), (4, .ptr (12, 0) 0), (8, B y1), (9, B y2), (10, I i), (11, I k)], hl [((5, 0), .box [I z1, Cs L]), ((12, 0), .box [I z1, Cs S])], 13⟩)
          (fun k => k ≤ i) (fun k => i - k) 0 (by kernel_rfl) ?_ ?_ ?_
        · refine Le.told [] ?_ ?_ ?_ <;> simp [-Bool.exists_bool, -Int.not_le, -Int.not_lt, -getElem?_pos, -List.getD_eq_getElem?_getD, setH]
        · exact Nat.zero_le _
        · intro k hk
          by_cases hki : k < i
          · have hks : k < S.length := by omega
            have hM := iMeetCellsW (nth S i) (nth S k) (hSc _ (nth_mem h)) (hSc _ (nth_mem hks))
            have hE := iIsEmptyCell (meetC (nth S i) (nth S k)).1 (meetC (nth S i) (nth S k)).2.1 (Nat.le_trans meetC_16 (by omega))
            have hds := split_dis hdis hki h
            simp -implicitDefEqProofs -dsimp +contextual [-Bool.exists_bool, -Int.not_le, -Int.not_lt, -getElem?_pos, -List.getD_eq_getElem?_getD, h, hki, hks]
            generalize emptyC (meetC (nth S i) (nth S k)).1 (meetC (nth S i) (nth S k)).2.1 = e at *
            generalize meetC (nth S i) (nth S k) = m at *
            obtain ⟨m1, m2, m3⟩ := m
            obtain ⟨e1, e2⟩ := e
            simp only at hds hE
            refine CallJ.pure hM rfl (by simp [-Bool.exists_bool, -Int.not_le, -Int.not_lt, -getElem?_pos, -List.getD_eq_getElem?_getD]) ?_
            simp -implicitDefEqProofs -dsimp +contextual [-Bool.exists_bool, -Int.not_le, -Int.not_lt, -getElem?_pos, -List.getD_eq_getElem?_getD]
            refine ⟨Quiet.of [] (by kernel_rfl) (by simp [-Bool.exists_bool, -Int.not_le, -Int.not_lt, -getElem?_pos, -List.getD_eq_getElem?_getD, allP, offB]), ?_⟩
            refine CallJ.pure hE rfl (by simp [-Bool.exists_bool, -Int.not_le, -Int.not_lt, -getElem?_pos, -List.getD_eq_getElem?_getD]) ?_
            cases m3
            · simp -implicitDefEqProofs -dsimp +contextual [-Bool.exists_bool, -Int.not_le, -Int.not_lt, -getElem?_pos, -List.getD_eq_getElem?_getD]
              exact ⟨k + 1, hki, by omega, by
                rw [wr (x := (k : Int) + 1) (by omega) (by omega)]
                refine Le.told [] ?_ ?_ ?_ <;> simp [-Bool.exists_bool, -Int.not_le, -Int.not_lt, -getElem?_pos, -List.getD_eq_getElem?_getD]⟩
            · cases e2
              · simp -implicitDefEqProofs -dsimp +contextual [-Bool.exists_bool, -Int.not_le, -Int.not_lt, -getElem?_pos, -List.getD_eq_getElem?_getD]
                exact ⟨k + 1, hki, by omega, by
                rw [wr (x := (k : Int) + 1) (by omega) (by omega)]
                refine Le.told [] ?_ ?_ ?_ <;> simp [-Bool.exists_bool, -Int.not_le, -Int.not_lt, -getElem?_pos, -List.getD_eq_getElem?_getD]⟩
              · obtain rfl := hds rfl rfl
                simp -implicitDefEqProofs -dsimp +contextual [-Bool.exists_bool, -Int.not_le, -Int.not_lt, -getElem?_pos, -List.getD_eq_getElem?_getD]
                exact ⟨k + 1, hki, by omega, by
                rw [wr (x := (k : Int) + 1) (by omega) (by omega)]
                refine Le.told [] ?_ ?_ ?_ <;> simp [-Bool.exists_bool, -Int.not_le, -Int.not_lt, -getElem?_pos, -List.getD_eq_getElem?_getD]⟩
          · simp -implicitDefEqProofs -dsimp +contextual [-Bool.exists_bool, -Int.not_le, -Int.not_lt, -getElem?_pos, -List.getD_eq_getElem?_getD, h, hki]
            refine ⟨i + 1, h, by omega, ?_⟩
            rw [wr (x := (i : Int) + 1) (by omega) (by omega)]
            refine Le.told [] ?_ ?_ ?_ <;> simp [-Bool.exists_bool, -Int.not_le, -Int.not_lt, -getElem?_pos, -List.getD_eq_getElem?_getD]
      · simp -implicitDefEqProofs -dsimp +contextual [-Bool.exists_bool, -Int.not_le, -Int.not_lt, -getElem?_pos, -List.getD_eq_getElem?_getD, h]
        cases y2
        · exact ⟨fun h => (by cases h), fun _ => fin⟩
        · obtain rfl := hlaw rfl
          exact ⟨fun _ => fin, fun h => (by cases h)⟩
end Go.Proofs.YtjknjekemolndaaGreat.ZL
