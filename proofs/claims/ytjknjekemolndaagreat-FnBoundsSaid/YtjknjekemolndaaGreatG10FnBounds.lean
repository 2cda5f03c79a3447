/- Texts of the abs road (plain values, what code does to them, and the contracts of the functions that the law reaches). No condition. -/
import Derived.Test.YtjknjekemolndaaGreatG9FnBounds
namespace Go.Proofs.YtjknjekemolndaaGreat.ZL
open Go Go.Proofs.YtjknjekemolndaaGreat.Abs Go.Proofs.YtjknjekemolndaaGreat.Abs.Pl Go.RowKit Go.Proofs
set_option linter.unusedVariables false
set_option linter.unusedSimpArgs false
set_option linter.unnecessarySimpa false
set_option maxRecDepth 100000
theorem pickF_cu (cd l : List Int) (c : Cu) (h : c.1 ≤ cd.length) : (pickF cd l c).2.1 ≤ cd.length := belowF_cu _ _ _ h
theorem pickF_mem (cd l : List Int) (c : Cu) (h : 0 < l.length) : (pickF cd l c).1 ∈ l := by
  have := belowF_bd cd (n := l.length) c (by omega)
  exact nth_mem (by omega)
def smA (L : List At) : Prop := ∀ a ∈ L, a.1.length ≤ 5
theorem us_ok (cd : List Int) (d : Nat) (hd : d ≤ 4) : ∀ (n : Nat) (L : List At) (c : Cu), smA L → c.1 ≤ cd.length → smA (us cd d n L c).1 ∧ (us cd d n L c).2.1 ≤ cd.length ∧ (us cd d n L c).1.length = L.length + n
  | 0, L, c, h, hc => ⟨h, hc, rfl⟩
  | n + 1, L, c, h, hc => by
    have := us_ok cd d hd n (L ++ [at2 (drA cd d c).1]) (drA cd d c).2 (fun a ha => by
      rcases List.mem_append.1 ha with ha | ha
      · exact h a ha
      · rw [List.mem_singleton.1 ha]
        have := (drA_ok cd d c hd).2
        show (drA cd d c).1.1.length ≤ 5
        omega) (drA_cu cd d c hc)
    refine ⟨this.1, this.2.1, ?_⟩
    have h3 := this.2.2
    simp only [List.length_append, List.length_singleton] at h3
    show (us cd d n _ _).1.length = _
    omega
theorem axA_ok (cd : List Int) (d v : Nat) (c : Cu) (hd : d ≤ 4) : (axA cd d v c).1.1.length ≤ 4 := by
  unfold axA mkA
  split
  · exact mkAt_len _ _ _
  · simp [-Bool.exists_bool, -Int.not_le, -Int.not_lt, -getElem?_pos, -List.getD_eq_getElem?_getD, noAt]
theorem axA_cu (cd : List Int) (d v : Nat) (c : Cu) (h : c.1 ≤ cd.length) : (axA cd d v c).2.1 ≤ cd.length := belowF_cu _ _ _ (belowF_cu _ _ _ (belowF_cu _ _ _ h))
theorem vs_ok (cd : List Int) (d : Nat) (hd : d ≤ 4) : ∀ (k v : Nat) (L : List At) (c : Cu), smA L → c.1 ≤ cd.length → smA (vs cd d k v L c).1 ∧ (vs cd d k v L c).2.1 ≤ cd.length ∧ (vs cd d k v L c).1.length ≤ L.length + k
  | 0, v, L, c, h, hc => ⟨h, hc, Nat.le_refl _⟩
  | k + 1, v, L, c, h, hc => by
    unfold vs
    split
    · have := vs_ok cd d hd k (v + 1) (L ++ [at2 (axA cd d v (belowF cd 2 c).2).1]) (axA cd d v (belowF cd 2 c).2).2 (fun a ha => by
        rcases List.mem_append.1 ha with ha | ha
        · exact h a ha
        · rw [List.mem_singleton.1 ha]
          have := axA_ok cd d v (belowF cd 2 c).2 hd
          show (axA cd d v (belowF cd 2 c).2).1.1.length ≤ 5
          omega) (axA_cu _ _ _ _ (belowF_cu _ _ _ hc))
      refine ⟨this.1, this.2.1, ?_⟩
      have h3 := this.2.2
      simp only [List.length_append, List.length_singleton] at h3
      omega
    · exact ⟨h, belowF_cu _ _ _ hc, Nat.le_add_right _ _⟩
theorem dr3_ok (cd : List Int) (d : Nat) (c : Cu) (hd : d ≤ 4) (hc : c.1 ≤ cd.length) : smA (dr3 cd d c).1 ∧ (dr3 cd d c).2.1 ≤ cd.length ∧ (dr3 cd d c).1.length ≤ 7 := by
  have hb := belowF_bd cd (n := 4) c (by omega)
  have h1 := us_ok cd d hd (belowF cd 4 c).1.toNat [] (belowF cd 4 c).2 (fun a ha => by simp [-Bool.exists_bool, -Int.not_le, -Int.not_lt, -getElem?_pos, -List.getD_eq_getElem?_getD] at ha) (belowF_cu _ _ _ hc)
  have h2 := vs_ok cd d hd d 0 _ _ h1.1 h1.2.1
  refine ⟨h2.1, h2.2.1, ?_⟩
  have h3 := h2.2.2
  rw [h1.2.2] at h3
  simp only [List.length_nil] at h3
  show (vs cd d d 0 _ _).1.length ≤ 7
  omega
theorem spA_len (cd : List Int) (a : At) (c : Cu) : (spA cd a c).1.1.length ≤ a.1.length + 1 := by
  unfold spA
  repeat' split
  all_goals simp [-Bool.exists_bool, -Int.not_le, -Int.not_lt, -getElem?_pos, -List.getD_eq_getElem?_getD]
def smC (x : Int × List At) : Prop := x.2.length ≤ 100 ∧ ∀ a ∈ x.2, a.1.length ≤ 100
theorem sp3_ok (cd : List Int) (d : Int) (L : List At) (c : Cu) (h : smA L) (hl : L.length ≤ 7) (hc : c.1 ≤ cd.length) : smC (sp3 cd d L c).1 ∧ (sp3 cd d L c).2.1 ≤ cd.length := by
  have h1 := belowF_cu cd 40 c hc
  have hL : smC (d, L) := ⟨by show L.length ≤ 100; omega, fun a ha => by have := h a ha; omega⟩
  unfold sp3
  split
  · exact ⟨hL, pickF_cu _ _ _ h1⟩
  · split
    · cases L with
      | nil => exact ⟨hL, h1⟩
      | cons a T =>
        refine ⟨⟨by simpa [-Bool.exists_bool, -Int.not_le, -Int.not_lt, -getElem?_pos, -List.getD_eq_getElem?_getD] using hL.1, fun b hb => ?_⟩, spA_cu _ _ _ h1⟩
        rcases List.mem_cons.1 hb with rfl | hb
        · have := spA_len cd a (belowF cd 40 c).2
          have := h a (by simp [-Bool.exists_bool, -Int.not_le, -Int.not_lt, -getElem?_pos, -List.getD_eq_getElem?_getD])
          omega
        · exact hL.2 b (by simp [-Bool.exists_bool, -Int.not_le, -Int.not_lt, -getElem?_pos, -List.getD_eq_getElem?_getD, hb])
    · split
      · cases L with
        | nil => exact ⟨hL, h1⟩
        | cons a T =>
          refine ⟨⟨by simp [-Bool.exists_bool, -Int.not_le, -Int.not_lt, -getElem?_pos, -List.getD_eq_getElem?_getD] at hl ⊢; omega, fun b hb => ?_⟩, h1⟩
          rcases List.mem_append.1 hb with hb | hb
          · exact hL.2 b hb
          · rw [(List.mem_replicate.1 hb).2]; exact hL.2 a (by simp [-Bool.exists_bool, -Int.not_le, -Int.not_lt, -getElem?_pos, -List.getD_eq_getElem?_getD])
      · exact ⟨hL, h1⟩
def dimL : List Int := [0, 1, 1, 2, 2, 2, 3]
def anF (cd : List Int) (c : Cu) : (Int × List At) × Cu :=
  sp3 cd (pickF cd dimL c).1 (dr3 cd (pickF cd dimL c).1.toNat (pickF cd dimL c).2).1 (dr3 cd (pickF cd dimL c).1.toNat (pickF cd dimL c).2).2
theorem dim_bd (cd : List Int) (c : Cu) : 0 ≤ (pickF cd dimL c).1 ∧ (pickF cd dimL c).1 ≤ 3 := by
  have := pickF_mem cd dimL c (by simp [-Bool.exists_bool, -Int.not_le, -Int.not_lt, -getElem?_pos, -List.getD_eq_getElem?_getD, dimL])
  generalize (pickF cd dimL c).1 = x at *
  simp [-Bool.exists_bool, -Int.not_le, -Int.not_lt, -getElem?_pos, -List.getD_eq_getElem?_getD, dimL] at this
  omega
theorem anF_ok (cd : List Int) (c : Cu) (hc : c.1 ≤ cd.length) : smC (anF cd c).1 ∧ (anF cd c).2.1 ≤ cd.length := by
  have hb := dim_bd cd c
  have h := dr3_ok cd (pickF cd dimL c).1.toNat (pickF cd dimL c).2 (by omega) (pickF_cu _ _ _ hc)
  exact sp3_ok cd _ _ _ h.1 h.2.2 h.2.1
theorem l3Any (cd : List Int) (c : Cu) (hc : c.1 ≤ cd.length) (h20 : cd.length ≤ 1048576) : Cm Tryz.prog 88 cA [.ptr (0, 1) 0] (cuH cd c) (C1 (anF cd c).1.1 (anF cd c).1.2) (cuH cd (anF cd c).2) := by
  refine Cm.of [] mixed Tryz.func88 rfl Tryz.call88 (by kernel_rfl) rfl ?_
  simp -implicitDefEqProofs -dsimp +contextual [-Bool.exists_bool, -Int.not_le, -Int.not_lt, -getElem?_pos, -List.getD_eq_getElem?_getD, Tryz.f88]
  have hc1 := pickF_cu cd dimL c hc
  have hb := dim_bd cd c
  have hdr := dr3_ok cd (pickF cd dimL c).1.toNat (pickF cd dimL c).2 (by omega) hc1
  refine callPick dimL (0, 1) (by simp [-Bool.exists_bool, -Int.not_le, -Int.not_lt, -getElem?_pos, -List.getD_eq_getElem?_getD, dimL]) hc h20 (by simp [-Bool.exists_bool, -Int.not_le, -Int.not_lt, -getElem?_pos, -List.getD_eq_getElem?_getD, setH]) (by simp [-Bool.exists_bool, -Int.not_le, -Int.not_lt, -getElem?_pos, -List.getD_eq_getElem?_getD]) (by simp [-Bool.exists_bool, -Int.not_le, -Int.not_lt, -getElem?_pos, -List.getD_eq_getElem?_getD]) ?_
  unfold anF
  generalize pickF cd dimL c = y at *
  obtain ⟨d, c1⟩ := y
  simp only at hc1 hb hdr ⊢
  obtain ⟨d, rfl⟩ : ∃ n : Nat, d = n := ⟨d.toNat, by omega⟩
  rw [Int.toNat_natCast] at hdr ⊢
  simp -implicitDefEqProofs -dsimp +contextual [-Bool.exists_bool, -Int.not_le, -Int.not_lt, -getElem?_pos, -List.getD_eq_getElem?_getD]
  refine callD3 d (0, 1) (by omega) hc1 h20 (by simp [-Bool.exists_bool, -Int.not_le, -Int.not_lt, -getElem?_pos, -List.getD_eq_getElem?_getD, setH]) (by simp [-Bool.exists_bool, -Int.not_le, -Int.not_lt, -getElem?_pos, -List.getD_eq_getElem?_getD]) (by simp [-Bool.exists_bool, -Int.not_le, -Int.not_lt, -getElem?_pos, -List.getD_eq_getElem?_getD]) (fun h => ?_) (fun a T h => ?_)
  · generalize dr3 cd d c1 = y at *
    obtain ⟨L, c2⟩ := y
    simp only at hdr h ⊢
    subst h
    simp -implicitDefEqProofs -dsimp +contextual [-Bool.exists_bool, -Int.not_le, -Int.not_lt, -getElem?_pos, -List.getD_eq_getElem?_getD]
    refine callSp3N (0, 1) d hdr.2.1 h20 (by simp [-Bool.exists_bool, -Int.not_le, -Int.not_lt, -getElem?_pos, -List.getD_eq_getElem?_getD, setH]) (by simp [-Bool.exists_bool, -Int.not_le, -Int.not_lt, -getElem?_pos, -List.getD_eq_getElem?_getD]) (by simp [-Bool.exists_bool, -Int.not_le, -Int.not_lt, -getElem?_pos, -List.getD_eq_getElem?_getD]) ?_
    simp -implicitDefEqProofs -dsimp +contextual [-Bool.exists_bool, -Int.not_le, -Int.not_lt, -getElem?_pos, -List.getD_eq_getElem?_getD]
    refine RLm.frzC [] 2 ?_ rfl ?_ ?_
    all_goals simp [-Bool.exists_bool, -Int.not_le, -Int.not_lt, -getElem?_pos, -List.getD_eq_getElem?_getD, setH]
  · generalize dr3 cd d c1 = y at *
    obtain ⟨L, c2⟩ := y
    simp only at hdr h ⊢
    subst h
    have h7 := hdr.2.2
    simp only [List.length_cons] at h7
    have ha := hdr.1 a (by simp [-Bool.exists_bool, -Int.not_le, -Int.not_lt, -getElem?_pos, -List.getD_eq_getElem?_getD])
    simp -implicitDefEqProofs -dsimp +contextual [-Bool.exists_bool, -Int.not_le, -Int.not_lt, -getElem?_pos, -List.getD_eq_getElem?_getD]
    refine callSp3 (0, 1) (7, 0) (7, 1) d a T (by omega) (by omega) hdr.2.1 h20 (by simp [-Bool.exists_bool, -Int.not_le, -Int.not_lt, -getElem?_pos, -List.getD_eq_getElem?_getD, setH]) (by simp [-Bool.exists_bool, -Int.not_le, -Int.not_lt, -getElem?_pos, -List.getD_eq_getElem?_getD, setH]) (by simp [-Bool.exists_bool, -Int.not_le, -Int.not_lt, -getElem?_pos, -List.getD_eq_getElem?_getD, setH]) (by simp [-Bool.exists_bool, -Int.not_le, -Int.not_lt, -getElem?_pos, -List.getD_eq_getElem?_getD]) (by simp [-Bool.exists_bool, -Int.not_le, -Int.not_lt, -getElem?_pos, -List.getD_eq_getElem?_getD]) (by simp [-Bool.exists_bool, -Int.not_le, -Int.not_lt, -getElem?_pos, -List.getD_eq_getElem?_getD]) ?_
    simp -implicitDefEqProofs -dsimp +contextual [-Bool.exists_bool, -Int.not_le, -Int.not_lt, -getElem?_pos, -List.getD_eq_getElem?_getD]
    refine RLm.frzC [] 2 ?_ rfl ?_ ?_
    all_goals simp [-Bool.exists_bool, -Int.not_le, -Int.not_lt, -getElem?_pos, -List.getD_eq_getElem?_getD, setH]
theorem callAny {N nx s : Nat} {H : Store} {K : Eff → Prop} {cd : List Int} {c : Cu} (kb : Key) (hc : c.1 ≤ cd.length) (h20 : cd.length ≤ 1048576) (hH : H kb = some (cuE cd c)) (hs : kb.1 ≠ s) (hn : kb.1 < nx) (hk : K ⟨C1 (anF cd c).1.1 (anF cd c).1.2, [kb], [kb], up1 kb (some (cuE cd (anF cd c).2)) noUp⟩) :
    CallJ Tryz.prog N nx s H 88 [.ptr kb 0] K := callCu kb (l3Any cd c hc h20) (fun g => rfl) (fun _ => by simp [-Bool.exists_bool, -Int.not_le, -Int.not_lt, -getElem?_pos, -List.getD_eq_getElem?_getD, allKs, allK]) (fun g => rfl) hH hs hn hk
end Go.Proofs.YtjknjekemolndaaGreat.ZL
namespace Go.Proofs.YtjknjekemolndaaGreat.ZL
open Go Go.Proofs.YtjknjekemolndaaGreat.Abs Go.Proofs.YtjknjekemolndaaGreat.Abs.Pl Go.RowKit Go.Proofs
set_option linter.unusedVariables false
set_option linter.unusedSimpArgs false
set_option linter.unnecessarySimpa false
set_option maxRecDepth 100000
def newC (cd : List Int) : Cu := (0, newF cd (newN cd))
theorem newC_ok (cd : List Int) : (newC cd).1 ≤ cd.length := Nat.zero_le _
def varF (cd : List Int) : (Int × List At) × Int := ((anF cd (newC cd)).1, (belowF cd 4 (anF cd (newC cd)).2).1 - 1)
theorem l3Var (cd : List Int) (h20 : cd.length ≤ 1048576) : Cn Tryz.prog 50 [Bs cd] (.tup [C1 (varF cd).1.1 (varF cd).1.2, I (varF cd).2]) hemp := by
  refine Cn.of [] mixed Tryz.func50 rfl Tryz.call50 (by kernel_rfl) rfl ?_
  simp -implicitDefEqProofs -dsimp +contextual [-Bool.exists_bool, -Int.not_le, -Int.not_lt, -getElem?_pos, -List.getD_eq_getElem?_getD, Tryz.f50]
  have hN := l1New cd h20
  change Cn Tryz.prog 65 [Bs cd] (.ptr (0, 0) 0) (hl [((0, 0), cuE cd (newC cd))]) at hN
  refine CallJ.pure hN rfl (by simp [-Bool.exists_bool, -Int.not_le, -Int.not_lt, -getElem?_pos, -List.getD_eq_getElem?_getD]) ?_
  simp -implicitDefEqProofs -dsimp +contextual [-Bool.exists_bool, -Int.not_le, -Int.not_lt, -getElem?_pos, -List.getD_eq_getElem?_getD]
  have h1 := anF_ok cd (newC cd) (newC_ok cd)
  unfold varF
  refine callAny (3, 0) (newC_ok cd) h20 (by simp [-Bool.exists_bool, -Int.not_le, -Int.not_lt, -getElem?_pos, -List.getD_eq_getElem?_getD, setH]) (by simp [-Bool.exists_bool, -Int.not_le, -Int.not_lt, -getElem?_pos, -List.getD_eq_getElem?_getD]) (by simp [-Bool.exists_bool, -Int.not_le, -Int.not_lt, -getElem?_pos, -List.getD_eq_getElem?_getD]) ?_
  generalize anF cd (newC cd) = y at *
  obtain ⟨x, c⟩ := y
  simp -implicitDefEqProofs -dsimp +contextual [-Bool.exists_bool, -Int.not_le, -Int.not_lt, -getElem?_pos, -List.getD_eq_getElem?_getD]
  have hb := belowF_bd cd (n := 4) c (by omega)
  refine callBelow 4 (3, 0) h1.2 h20 (by simp [-Bool.exists_bool, -Int.not_le, -Int.not_lt, -getElem?_pos, -List.getD_eq_getElem?_getD, setH]) (by simp [-Bool.exists_bool, -Int.not_le, -Int.not_lt, -getElem?_pos, -List.getD_eq_getElem?_getD]) (by simp [-Bool.exists_bool, -Int.not_le, -Int.not_lt, -getElem?_pos, -List.getD_eq_getElem?_getD]) ?_
  generalize belowF cd 4 c = y at *
  simp -implicitDefEqProofs -dsimp +contextual [-Bool.exists_bool, -Int.not_le, -Int.not_lt, -getElem?_pos, -List.getD_eq_getElem?_getD]
  rw [wr (x := y.1 - 1) (by omega) (by omega)]
  exact RLe.pure 3 (by simp [-Bool.exists_bool, -Int.not_le, -Int.not_lt, -getElem?_pos, -List.getD_eq_getElem?_getD, setH])
theorem DrawDropVariable (cd : List Int) (h20 : cd.length ≤ 1048576) : Cn Tryz.prog 13 [Bs cd] (.tup [C1 (varF cd).1.1 (varF cd).1.2, I (varF cd).2]) hemp := by
  refine Cn.of [] mixed Tryz.func13 rfl Tryz.call13 (by kernel_rfl) rfl ?_
  simp -implicitDefEqProofs -dsimp +contextual [-Bool.exists_bool, -Int.not_le, -Int.not_lt, -getElem?_pos, -List.getD_eq_getElem?_getD, Tryz.f13]
  refine CallJ.pure (l3Var cd h20) rfl (by simp [-Bool.exists_bool, -Int.not_le, -Int.not_lt, -getElem?_pos, -List.getD_eq_getElem?_getD]) ?_
  simp -implicitDefEqProofs -dsimp +contextual [-Bool.exists_bool, -Int.not_le, -Int.not_lt, -getElem?_pos, -List.getD_eq_getElem?_getD]
  exact RLe.pure 3 (by simp [-Bool.exists_bool, -Int.not_le, -Int.not_lt, -getElem?_pos, -List.getD_eq_getElem?_getD, setH])
theorem DrawBoundsOf (cd : List Int) (h20 : cd.length ≤ 1048576) : Cn Tryz.prog 32 [Bs cd] (.tup [C1 (varF cd).1.1 (varF cd).1.2, I (varF cd).2]) hemp := by
  refine Cn.of [] mixed Tryz.func32 rfl Tryz.call32 (by kernel_rfl) rfl ?_
  simp -implicitDefEqProofs -dsimp +contextual [-Bool.exists_bool, -Int.not_le, -Int.not_lt, -getElem?_pos, -List.getD_eq_getElem?_getD, Tryz.f32]
  refine CallJ.pure (l3Var cd h20) rfl (by simp [-Bool.exists_bool, -Int.not_le, -Int.not_lt, -getElem?_pos, -List.getD_eq_getElem?_getD]) ?_
  simp -implicitDefEqProofs -dsimp +contextual [-Bool.exists_bool, -Int.not_le, -Int.not_lt, -getElem?_pos, -List.getD_eq_getElem?_getD]
  exact RLe.pure 3 (by simp [-Bool.exists_bool, -Int.not_le, -Int.not_lt, -getElem?_pos, -List.getD_eq_getElem?_getD, setH])
theorem varF_ok (cd : List Int) : smC (varF cd).1 ∧ -1 ≤ (varF cd).2 ∧ (varF cd).2 ≤ 2 := by
  have h1 := anF_ok cd (newC cd) (newC_ok cd)
  have hb := belowF_bd cd (n := 4) (anF cd (newC cd)).2 (by omega)
  refine ⟨h1.1, ?_, ?_⟩
  · show -1 ≤ (belowF cd 4 (anF cd (newC cd)).2).1 - 1; omega
  · show (belowF cd 4 (anF cd (newC cd)).2).1 - 1 ≤ 2; omega
end Go.Proofs.YtjknjekemolndaaGreat.ZL
namespace Go.Proofs.YtjknjekemolndaaGreat.ZL
open Go Go.Proofs.YtjknjekemolndaaGreat.Abs Go.Proofs.YtjknjekemolndaaGreat.Abs.Pl Go.RowKit Go.Proofs
set_option linter.unusedVariables false
set_option linter.unusedSimpArgs false
set_option linter.unnecessarySimpa false
set_option maxRecDepth 100000
set_option maxHeartbeats 8000000
theorem big (cd : List Int) : Cn Tryz.prog 12 [Bs cd] (B (decide (1048576 < cd.length))) hemp := by
  refine Cn.of [] mixed Tryz.func12 rfl Tryz.call12 (by kernel_rfl) rfl ?_
  simp -implicitDefEqProofs -dsimp +contextual [-Bool.exists_bool, -Int.not_le, -Int.not_lt, -getElem?_pos, -List.getD_eq_getElem?_getD, Tryz.f12]
  exact RLe.bb (by congr 1; simp [-Bool.exists_bool, -Int.not_le, -Int.not_lt, -getElem?_pos, -List.getD_eq_getElem?_getD]; omega)
theorem byts_of {cd : List Int} (h : ∀ y ∈ cd, (Lit.int .u8 y).wf = true) : byts cd := fun y hy => by
  have := h y hy
  simp [-Bool.exists_bool, -Int.not_le, -Int.not_lt, -getElem?_pos, -List.getD_eq_getElem?_getD, Lit.wf] at this
  exact this
theorem bndD_f {d : Int} {L : List At} {v : Int} (h : (bndD d L v).2 = false) : bndD d L v = (bd0, false) := by
  unfold bndD at h ⊢
  split
  · rename_i hc
    rw [if_pos hc] at h
    cases hx : dropsGo d v.toNat d.toNat (nrm d L) with
    | none => rfl
    | some x => rw [hx] at h; cases h
  · rfl
theorem bndD_v {d : Int} {L : List At} {v : Int} (h : (bndD d L v).2 = true) : isCe d L = true ∧ 0 ≤ v ∧ v < d := by
  unfold bndD at h
  split at h
  · rename_i hc; exact hc
  · cases h
theorem csD_one (d : Int) (L : List At) : csD [(d, L)] = [.int .i64 d, .sl L.length (asD L)] := rfl
theorem lawBounds (cd : List Int) (hw : cd.length ≤ maxLen ∧ ∀ y ∈ cd, (Lit.int .u8 y).wf = true) : Cn Tryz.prog 6 [Bs cd] (B true) hemp := by
  refine Cn.of [] mixed Tryz.func6 rfl Tryz.call6 (by kernel_rfl) rfl ?_
  simp -implicitDefEqProofs -dsimp +contextual [-Bool.exists_bool, -Int.not_le, -Int.not_lt, -getElem?_pos, -List.getD_eq_getElem?_getD, Tryz.f6]
  refine CallJ.pure (big cd) rfl (by simp [-Bool.exists_bool, -Int.not_le, -Int.not_lt, -getElem?_pos, -List.getD_eq_getElem?_getD]) ?_
  simp -implicitDefEqProofs -dsimp +contextual [-Bool.exists_bool, -Int.not_le, -Int.not_lt, -getElem?_pos, -List.getD_eq_getElem?_getD]
  refine ⟨fun hb => RLe.bb rfl, fun hb => ?_⟩
  have h20 : cd.length ≤ 1048576 := by omega
  have hby := byts_of hw.2
  refine CallJ.pure (DrawBoundsOf cd h20) rfl (by simp [-Bool.exists_bool, -Int.not_le, -Int.not_lt, -getElem?_pos, -List.getD_eq_getElem?_getD]) ?_
  have hx := (varF_ok cd).1
  generalize varF cd = y at *
  obtain ⟨⟨d, L⟩, v⟩ := y
  have h100 : L.length ≤ 1048576 := by have := hx.1; simp only at this; omega
  simp -implicitDefEqProofs -dsimp +contextual [-Bool.exists_bool, -Int.not_le, -Int.not_lt, -getElem?_pos, -List.getD_eq_getElem?_getD]
  refine CallJ.pure (iBoundsOf d L v h100) rfl (by simp [-Bool.exists_bool, -Int.not_le, -Int.not_lt, -getElem?_pos, -List.getD_eq_getElem?_getD]) ?_
  simp -implicitDefEqProofs -dsimp +contextual [-Bool.exists_bool, -Int.not_le, -Int.not_lt, -getElem?_pos, -List.getD_eq_getElem?_getD]
  refine CallJ.pure (BoundsOf d L v h100) rfl (by simp [-Bool.exists_bool, -Int.not_le, -Int.not_lt, -getElem?_pos, -List.getD_eq_getElem?_getD]) ?_
  cases hf : (bndD d L v).2 with
  | false =>
    rw [bndD_f hf]
    simp -implicitDefEqProofs -dsimp +contextual [-Bool.exists_bool, -Int.not_le, -Int.not_lt, -getElem?_pos, -List.getD_eq_getElem?_getD]
    exact ⟨by simp [-Bool.exists_bool, -Int.not_le, -Int.not_lt, -getElem?_pos, -List.getD_eq_getElem?_getD, bd0], by kernel_rfl, RLe.bb rfl⟩
  | true =>
    obtain ⟨hce, hv⟩ := bndD_v hf
    have hd := isCe_d hce
    obtain ⟨n, rfl⟩ : ∃ n : Nat, v = n := ⟨v.toNat, by omega⟩
    have hA := amF_ok hby hd L
    have hi := fun h1 h2 => bounds_in (p := amF cd d [(d, L)]) hf hA.2 h1 h2
    have hc := bounds_cut (q := nth (amF cd d [(d, L)]) n) hf
    have hAm := among cd d [(d, L)] hby h20 (by simp [-Bool.exists_bool, -Int.not_le, -Int.not_lt, -getElem?_pos, -List.getD_eq_getElem?_getD]) (by intro c hc; rw [List.mem_singleton.1 hc]; exact h100)
    have hI := iInCell d L (amF cd d [(d, L)]) h100 (by omega)
    simp -implicitDefEqProofs -dsimp +contextual [-Bool.exists_bool, -Int.not_le, -Int.not_lt, -getElem?_pos, -List.getD_eq_getElem?_getD]
    have hS := iSliceCellW d L n (nth (amF cd d [(d, L)]) n).1 (nth (amF cd d [(d, L)]) n).2 h100
    have hss := sliceD_small d L n (nth (amF cd d [(d, L)]) n).1 (nth (amF cd d [(d, L)]) n).2
    generalize (bndD d L n).1 = b at *
    generalize amF cd d [(d, L)] = p at *
    generalize inI d L p = q at *
    obtain ⟨q1, q2⟩ := q
    have hn : n < p.length := by omega
    have hn2 : n * 2 + 2 ≤ p.length * 2 := by omega
    have hcut := rsD_cutD p n hn
    have hnn : ((n : Int)).toNat = n := Int.toNat_natCast n
    rw [hnn] at hi
    refine CallJ.pure hAm rfl (by simp [-Bool.exists_bool, -Int.not_le, -Int.not_lt, -getElem?_pos, -List.getD_eq_getElem?_getD]) ?_
    simp -implicitDefEqProofs -dsimp +contextual [-Bool.exists_bool, -Int.not_le, -Int.not_lt, -getElem?_pos, -List.getD_eq_getElem?_getD]
    refine CallJ.pure hI rfl (by simp [-Bool.exists_bool, -Int.not_le, -Int.not_lt, -getElem?_pos, -List.getD_eq_getElem?_getD]) ?_
    generalize nth p n = r at *
    generalize sliceD d L n r.1 r.2 = z at *
    obtain ⟨z1, z2, z3⟩ := z
    simp only at hc hS hss
    have hE := iIsEmptyCell z1 z2 (by have := hss.1; omega)
    generalize emptyC z1 z2 = e at *
    obtain ⟨e1, e2⟩ := e
    simp only at hc hE hi hI
    obtain ⟨bhl, ⟨l1, l2⟩, blop, bhh, ⟨h1, h2⟩, bhop, bem⟩ := b
    have hC1 := iCompareRatios r (l1, l2)
    have hC2 := iCompareRatios r (h1, h2)
    unfold wiB at hi hc
    simp only at hi hc
    generalize cmpR r (l1, l2) = x1 at *
    generalize cmpR r (h1, h2) = x2 at *
    have fin : ∀ {H : Store}, RLe Tryz.prog H (V.d (D.bool true)) (B true) hemp := RLe.bb rfl
    cases q2
    · cases bem
      · cases bhl
        · cases bhh
          · simp only [Bool.not_false, Bool.not_true, Bool.true_and, Bool.false_and, Bool.true_or, Bool.false_or, Bool.and_true] at hi hc
            simp -implicitDefEqProofs -dsimp +contextual [-Bool.exists_bool, -Int.not_le, -Int.not_lt, -getElem?_pos, -List.getD_eq_getElem?_getD, hcut, hn, hn2]
            refine CallJ.pure hS rfl (by simp [-Bool.exists_bool, -Int.not_le, -Int.not_lt, -getElem?_pos, -List.getD_eq_getElem?_getD]) ?_
            simp -implicitDefEqProofs -dsimp +contextual [-Bool.exists_bool, -Int.not_le, -Int.not_lt, -getElem?_pos, -List.getD_eq_getElem?_getD, hcut, hn, hn2]
            refine CallJ.pure hE rfl (by simp [-Bool.exists_bool, -Int.not_le, -Int.not_lt, -getElem?_pos, -List.getD_eq_getElem?_getD]) ?_
            cases z3 <;> cases e2
            · simp -implicitDefEqProofs -dsimp +contextual [-Bool.exists_bool, -Int.not_le, -Int.not_lt, -getElem?_pos, -List.getD_eq_getElem?_getD]
              exact fin
            · simp -implicitDefEqProofs -dsimp +contextual [-Bool.exists_bool, -Int.not_le, -Int.not_lt, -getElem?_pos, -List.getD_eq_getElem?_getD]
              exact fin
            · simp -implicitDefEqProofs -dsimp +contextual [-Bool.exists_bool, -Int.not_le, -Int.not_lt, -getElem?_pos, -List.getD_eq_getElem?_getD]
              exact fin
            · have hc := hc rfl rfl
              try simp [-Bool.exists_bool, -Int.not_le, -Int.not_lt, -getElem?_pos, -List.getD_eq_getElem?_getD] at hc
              subst hc
              simp -implicitDefEqProofs -dsimp +contextual [-Bool.exists_bool, -Int.not_le, -Int.not_lt, -getElem?_pos, -List.getD_eq_getElem?_getD]
              exact fin
          · simp only [Bool.not_false, Bool.not_true, Bool.true_and, Bool.false_and, Bool.true_or, Bool.false_or, Bool.and_true] at hi hc
            simp -implicitDefEqProofs -dsimp +contextual [-Bool.exists_bool, -Int.not_le, -Int.not_lt, -getElem?_pos, -List.getD_eq_getElem?_getD, hcut, hn, hn2]
            refine CallJ.pure hC2 rfl (by simp [-Bool.exists_bool, -Int.not_le, -Int.not_lt, -getElem?_pos, -List.getD_eq_getElem?_getD]) ?_
            by_cases p2 : x2 < 0
            · simp only [p2, decide_true, Bool.true_or, Bool.or_true] at hi hc
              simp -implicitDefEqProofs -dsimp +contextual [-Bool.exists_bool, -Int.not_le, -Int.not_lt, -getElem?_pos, -List.getD_eq_getElem?_getD, hcut, hn, hn2, p2]
              refine CallJ.pure hS rfl (by simp [-Bool.exists_bool, -Int.not_le, -Int.not_lt, -getElem?_pos, -List.getD_eq_getElem?_getD]) ?_
              simp -implicitDefEqProofs -dsimp +contextual [-Bool.exists_bool, -Int.not_le, -Int.not_lt, -getElem?_pos, -List.getD_eq_getElem?_getD, hcut, hn, hn2]
              refine CallJ.pure hE rfl (by simp [-Bool.exists_bool, -Int.not_le, -Int.not_lt, -getElem?_pos, -List.getD_eq_getElem?_getD]) ?_
              cases z3 <;> cases e2
              · simp -implicitDefEqProofs -dsimp +contextual [-Bool.exists_bool, -Int.not_le, -Int.not_lt, -getElem?_pos, -List.getD_eq_getElem?_getD]
                exact fin
              · simp -implicitDefEqProofs -dsimp +contextual [-Bool.exists_bool, -Int.not_le, -Int.not_lt, -getElem?_pos, -List.getD_eq_getElem?_getD]
                exact fin
              · simp -implicitDefEqProofs -dsimp +contextual [-Bool.exists_bool, -Int.not_le, -Int.not_lt, -getElem?_pos, -List.getD_eq_getElem?_getD]
                exact fin
              · have hc := hc rfl rfl
                try simp [-Bool.exists_bool, -Int.not_le, -Int.not_lt, -getElem?_pos, -List.getD_eq_getElem?_getD] at hc
                subst hc
                simp -implicitDefEqProofs -dsimp +contextual [-Bool.exists_bool, -Int.not_le, -Int.not_lt, -getElem?_pos, -List.getD_eq_getElem?_getD]
                exact fin
            · by_cases z0 : x2 = 0
              · cases bhop
                · simp only [p2, z0, decide_true, decide_false, Bool.false_or] at hi hc
                  simp -implicitDefEqProofs -dsimp +contextual [-Bool.exists_bool, -Int.not_le, -Int.not_lt, -getElem?_pos, -List.getD_eq_getElem?_getD, hcut, hn, hn2, p2, z0]
                  refine CallJ.pure hS rfl (by simp [-Bool.exists_bool, -Int.not_le, -Int.not_lt, -getElem?_pos, -List.getD_eq_getElem?_getD]) ?_
                  simp -implicitDefEqProofs -dsimp +contextual [-Bool.exists_bool, -Int.not_le, -Int.not_lt, -getElem?_pos, -List.getD_eq_getElem?_getD, hcut, hn, hn2]
                  refine CallJ.pure hE rfl (by simp [-Bool.exists_bool, -Int.not_le, -Int.not_lt, -getElem?_pos, -List.getD_eq_getElem?_getD]) ?_
                  cases z3 <;> cases e2
                  · simp -implicitDefEqProofs -dsimp +contextual [-Bool.exists_bool, -Int.not_le, -Int.not_lt, -getElem?_pos, -List.getD_eq_getElem?_getD]
                    exact fin
                  · simp -implicitDefEqProofs -dsimp +contextual [-Bool.exists_bool, -Int.not_le, -Int.not_lt, -getElem?_pos, -List.getD_eq_getElem?_getD]
                    exact fin
                  · simp -implicitDefEqProofs -dsimp +contextual [-Bool.exists_bool, -Int.not_le, -Int.not_lt, -getElem?_pos, -List.getD_eq_getElem?_getD]
                    exact fin
                  · have hc := hc rfl rfl
                    try simp [-Bool.exists_bool, -Int.not_le, -Int.not_lt, -getElem?_pos, -List.getD_eq_getElem?_getD] at hc
                    subst hc
                    simp -implicitDefEqProofs -dsimp +contextual [-Bool.exists_bool, -Int.not_le, -Int.not_lt, -getElem?_pos, -List.getD_eq_getElem?_getD]
                    exact fin
                · simp only [p2, z0, decide_true, decide_false, Bool.false_or] at hi hc
                  simp -implicitDefEqProofs -dsimp +contextual [-Bool.exists_bool, -Int.not_le, -Int.not_lt, -getElem?_pos, -List.getD_eq_getElem?_getD, hcut, hn, hn2, p2, z0]
                  refine CallJ.pure hS rfl (by simp [-Bool.exists_bool, -Int.not_le, -Int.not_lt, -getElem?_pos, -List.getD_eq_getElem?_getD]) ?_
                  simp -implicitDefEqProofs -dsimp +contextual [-Bool.exists_bool, -Int.not_le, -Int.not_lt, -getElem?_pos, -List.getD_eq_getElem?_getD, hcut, hn, hn2]
                  refine CallJ.pure hE rfl (by simp [-Bool.exists_bool, -Int.not_le, -Int.not_lt, -getElem?_pos, -List.getD_eq_getElem?_getD]) ?_
                  cases z3 <;> cases e2
                  · simp -implicitDefEqProofs -dsimp +contextual [-Bool.exists_bool, -Int.not_le, -Int.not_lt, -getElem?_pos, -List.getD_eq_getElem?_getD]
                    exact fin
                  · simp -implicitDefEqProofs -dsimp +contextual [-Bool.exists_bool, -Int.not_le, -Int.not_lt, -getElem?_pos, -List.getD_eq_getElem?_getD]
                    exact fin
                  · simp -implicitDefEqProofs -dsimp +contextual [-Bool.exists_bool, -Int.not_le, -Int.not_lt, -getElem?_pos, -List.getD_eq_getElem?_getD]
                    exact fin
                  · have hc := hc rfl rfl
                    try simp [-Bool.exists_bool, -Int.not_le, -Int.not_lt, -getElem?_pos, -List.getD_eq_getElem?_getD] at hc
                    subst hc
                    simp -implicitDefEqProofs -dsimp +contextual [-Bool.exists_bool, -Int.not_le, -Int.not_lt, -getElem?_pos, -List.getD_eq_getElem?_getD]
                    exact fin
              · simp only [p2, z0, decide_true, decide_false, Bool.false_or, Bool.false_and] at hi hc
                simp -implicitDefEqProofs -dsimp +contextual [-Bool.exists_bool, -Int.not_le, -Int.not_lt, -getElem?_pos, -List.getD_eq_getElem?_getD, hcut, hn, hn2, p2, z0]
                refine CallJ.pure hS rfl (by simp [-Bool.exists_bool, -Int.not_le, -Int.not_lt, -getElem?_pos, -List.getD_eq_getElem?_getD]) ?_
                simp -implicitDefEqProofs -dsimp +contextual [-Bool.exists_bool, -Int.not_le, -Int.not_lt, -getElem?_pos, -List.getD_eq_getElem?_getD, hcut, hn, hn2]
                refine CallJ.pure hE rfl (by simp [-Bool.exists_bool, -Int.not_le, -Int.not_lt, -getElem?_pos, -List.getD_eq_getElem?_getD]) ?_
                cases z3 <;> cases e2
                · simp -implicitDefEqProofs -dsimp +contextual [-Bool.exists_bool, -Int.not_le, -Int.not_lt, -getElem?_pos, -List.getD_eq_getElem?_getD]
                  exact fin
                · simp -implicitDefEqProofs -dsimp +contextual [-Bool.exists_bool, -Int.not_le, -Int.not_lt, -getElem?_pos, -List.getD_eq_getElem?_getD]
                  exact fin
                · simp -implicitDefEqProofs -dsimp +contextual [-Bool.exists_bool, -Int.not_le, -Int.not_lt, -getElem?_pos, -List.getD_eq_getElem?_getD]
                  exact fin
                · have hc := hc rfl rfl
                  try simp [-Bool.exists_bool, -Int.not_le, -Int.not_lt, -getElem?_pos, -List.getD_eq_getElem?_getD] at hc
                  subst hc
                  simp -implicitDefEqProofs -dsimp +contextual [-Bool.exists_bool, -Int.not_le, -Int.not_lt, -getElem?_pos, -List.getD_eq_getElem?_getD]
                  exact fin
        · cases bhh
          · simp only [Bool.not_false, Bool.not_true, Bool.true_and, Bool.false_and, Bool.true_or, Bool.false_or, Bool.and_true] at hi hc
            simp -implicitDefEqProofs -dsimp +contextual [-Bool.exists_bool, -Int.not_le, -Int.not_lt, -getElem?_pos, -List.getD_eq_getElem?_getD, hcut, hn, hn2]
            refine CallJ.pure hC1 rfl (by simp [-Bool.exists_bool, -Int.not_le, -Int.not_lt, -getElem?_pos, -List.getD_eq_getElem?_getD]) ?_
            by_cases p1 : 0 < x1
            · simp only [p1, decide_true, Bool.true_or, Bool.or_true] at hi hc
              simp -implicitDefEqProofs -dsimp +contextual [-Bool.exists_bool, -Int.not_le, -Int.not_lt, -getElem?_pos, -List.getD_eq_getElem?_getD, hcut, hn, hn2, p1]
              refine CallJ.pure hS rfl (by simp [-Bool.exists_bool, -Int.not_le, -Int.not_lt, -getElem?_pos, -List.getD_eq_getElem?_getD]) ?_
              simp -implicitDefEqProofs -dsimp +contextual [-Bool.exists_bool, -Int.not_le, -Int.not_lt, -getElem?_pos, -List.getD_eq_getElem?_getD, hcut, hn, hn2]
              refine CallJ.pure hE rfl (by simp [-Bool.exists_bool, -Int.not_le, -Int.not_lt, -getElem?_pos, -List.getD_eq_getElem?_getD]) ?_
              cases z3 <;> cases e2
              · simp -implicitDefEqProofs -dsimp +contextual [-Bool.exists_bool, -Int.not_le, -Int.not_lt, -getElem?_pos, -List.getD_eq_getElem?_getD]
                exact fin
              · simp -implicitDefEqProofs -dsimp +contextual [-Bool.exists_bool, -Int.not_le, -Int.not_lt, -getElem?_pos, -List.getD_eq_getElem?_getD]
                exact fin
              · simp -implicitDefEqProofs -dsimp +contextual [-Bool.exists_bool, -Int.not_le, -Int.not_lt, -getElem?_pos, -List.getD_eq_getElem?_getD]
                exact fin
              · have hc := hc rfl rfl
                try simp [-Bool.exists_bool, -Int.not_le, -Int.not_lt, -getElem?_pos, -List.getD_eq_getElem?_getD] at hc
                subst hc
                simp -implicitDefEqProofs -dsimp +contextual [-Bool.exists_bool, -Int.not_le, -Int.not_lt, -getElem?_pos, -List.getD_eq_getElem?_getD]
                exact fin
            · by_cases z1 : x1 = 0
              · cases blop
                · simp only [p1, z1, decide_true, decide_false, Bool.false_or] at hi hc
                  simp -implicitDefEqProofs -dsimp +contextual [-Bool.exists_bool, -Int.not_le, -Int.not_lt, -getElem?_pos, -List.getD_eq_getElem?_getD, hcut, hn, hn2, p1, z1]
                  refine CallJ.pure hS rfl (by simp [-Bool.exists_bool, -Int.not_le, -Int.not_lt, -getElem?_pos, -List.getD_eq_getElem?_getD]) ?_
                  simp -implicitDefEqProofs -dsimp +contextual [-Bool.exists_bool, -Int.not_le, -Int.not_lt, -getElem?_pos, -List.getD_eq_getElem?_getD, hcut, hn, hn2]
                  refine CallJ.pure hE rfl (by simp [-Bool.exists_bool, -Int.not_le, -Int.not_lt, -getElem?_pos, -List.getD_eq_getElem?_getD]) ?_
                  cases z3 <;> cases e2
                  · simp -implicitDefEqProofs -dsimp +contextual [-Bool.exists_bool, -Int.not_le, -Int.not_lt, -getElem?_pos, -List.getD_eq_getElem?_getD]
                    exact fin
                  · simp -implicitDefEqProofs -dsimp +contextual [-Bool.exists_bool, -Int.not_le, -Int.not_lt, -getElem?_pos, -List.getD_eq_getElem?_getD]
                    exact fin
                  · simp -implicitDefEqProofs -dsimp +contextual [-Bool.exists_bool, -Int.not_le, -Int.not_lt, -getElem?_pos, -List.getD_eq_getElem?_getD]
                    exact fin
                  · have hc := hc rfl rfl
                    try simp [-Bool.exists_bool, -Int.not_le, -Int.not_lt, -getElem?_pos, -List.getD_eq_getElem?_getD] at hc
                    subst hc
                    simp -implicitDefEqProofs -dsimp +contextual [-Bool.exists_bool, -Int.not_le, -Int.not_lt, -getElem?_pos, -List.getD_eq_getElem?_getD]
                    exact fin
                · simp only [p1, z1, decide_true, decide_false, Bool.false_or] at hi hc
                  simp -implicitDefEqProofs -dsimp +contextual [-Bool.exists_bool, -Int.not_le, -Int.not_lt, -getElem?_pos, -List.getD_eq_getElem?_getD, hcut, hn, hn2, p1, z1]
                  refine CallJ.pure hS rfl (by simp [-Bool.exists_bool, -Int.not_le, -Int.not_lt, -getElem?_pos, -List.getD_eq_getElem?_getD]) ?_
                  simp -implicitDefEqProofs -dsimp +contextual [-Bool.exists_bool, -Int.not_le, -Int.not_lt, -getElem?_pos, -List.getD_eq_getElem?_getD, hcut, hn, hn2]
                  refine CallJ.pure hE rfl (by simp [-Bool.exists_bool, -Int.not_le, -Int.not_lt, -getElem?_pos, -List.getD_eq_getElem?_getD]) ?_
                  cases z3 <;> cases e2
                  · simp -implicitDefEqProofs -dsimp +contextual [-Bool.exists_bool, -Int.not_le, -Int.not_lt, -getElem?_pos, -List.getD_eq_getElem?_getD]
                    exact fin
                  · simp -implicitDefEqProofs -dsimp +contextual [-Bool.exists_bool, -Int.not_le, -Int.not_lt, -getElem?_pos, -List.getD_eq_getElem?_getD]
                    exact fin
                  · simp -implicitDefEqProofs -dsimp +contextual [-Bool.exists_bool, -Int.not_le, -Int.not_lt, -getElem?_pos, -List.getD_eq_getElem?_getD]
                    exact fin
                  · have hc := hc rfl rfl
                    try simp [-Bool.exists_bool, -Int.not_le, -Int.not_lt, -getElem?_pos, -List.getD_eq_getElem?_getD] at hc
                    subst hc
                    simp -implicitDefEqProofs -dsimp +contextual [-Bool.exists_bool, -Int.not_le, -Int.not_lt, -getElem?_pos, -List.getD_eq_getElem?_getD]
                    exact fin
              · simp only [p1, z1, decide_true, decide_false, Bool.false_or, Bool.false_and] at hi hc
                simp -implicitDefEqProofs -dsimp +contextual [-Bool.exists_bool, -Int.not_le, -Int.not_lt, -getElem?_pos, -List.getD_eq_getElem?_getD, hcut, hn, hn2, p1, z1]
                refine CallJ.pure hS rfl (by simp [-Bool.exists_bool, -Int.not_le, -Int.not_lt, -getElem?_pos, -List.getD_eq_getElem?_getD]) ?_
                simp -implicitDefEqProofs -dsimp +contextual [-Bool.exists_bool, -Int.not_le, -Int.not_lt, -getElem?_pos, -List.getD_eq_getElem?_getD, hcut, hn, hn2]
                refine CallJ.pure hE rfl (by simp [-Bool.exists_bool, -Int.not_le, -Int.not_lt, -getElem?_pos, -List.getD_eq_getElem?_getD]) ?_
                cases z3 <;> cases e2
                · simp -implicitDefEqProofs -dsimp +contextual [-Bool.exists_bool, -Int.not_le, -Int.not_lt, -getElem?_pos, -List.getD_eq_getElem?_getD]
                  exact fin
                · simp -implicitDefEqProofs -dsimp +contextual [-Bool.exists_bool, -Int.not_le, -Int.not_lt, -getElem?_pos, -List.getD_eq_getElem?_getD]
                  exact fin
                · simp -implicitDefEqProofs -dsimp +contextual [-Bool.exists_bool, -Int.not_le, -Int.not_lt, -getElem?_pos, -List.getD_eq_getElem?_getD]
                  exact fin
                · have hc := hc rfl rfl
                  try simp [-Bool.exists_bool, -Int.not_le, -Int.not_lt, -getElem?_pos, -List.getD_eq_getElem?_getD] at hc
                  subst hc
                  simp -implicitDefEqProofs -dsimp +contextual [-Bool.exists_bool, -Int.not_le, -Int.not_lt, -getElem?_pos, -List.getD_eq_getElem?_getD]
                  exact fin
          · simp only [Bool.not_false, Bool.not_true, Bool.true_and, Bool.false_and, Bool.true_or, Bool.false_or, Bool.and_true] at hi hc
            simp -implicitDefEqProofs -dsimp +contextual [-Bool.exists_bool, -Int.not_le, -Int.not_lt, -getElem?_pos, -List.getD_eq_getElem?_getD, hcut, hn, hn2]
            refine CallJ.pure hC1 rfl (by simp [-Bool.exists_bool, -Int.not_le, -Int.not_lt, -getElem?_pos, -List.getD_eq_getElem?_getD]) ?_
            by_cases p1 : 0 < x1
            · simp only [p1, decide_true, Bool.true_or, Bool.or_true] at hi hc
              simp -implicitDefEqProofs -dsimp +contextual [-Bool.exists_bool, -Int.not_le, -Int.not_lt, -getElem?_pos, -List.getD_eq_getElem?_getD, hcut, hn, hn2, p1]
              refine CallJ.pure hC2 rfl (by simp [-Bool.exists_bool, -Int.not_le, -Int.not_lt, -getElem?_pos, -List.getD_eq_getElem?_getD]) ?_
              by_cases p2 : x2 < 0
              · simp only [p2, decide_true, Bool.true_or, Bool.or_true] at hi hc
                simp -implicitDefEqProofs -dsimp +contextual [-Bool.exists_bool, -Int.not_le, -Int.not_lt, -getElem?_pos, -List.getD_eq_getElem?_getD, hcut, hn, hn2, p2]
                refine CallJ.pure hS rfl (by simp [-Bool.exists_bool, -Int.not_le, -Int.not_lt, -getElem?_pos, -List.getD_eq_getElem?_getD]) ?_
                simp -implicitDefEqProofs -dsimp +contextual [-Bool.exists_bool, -Int.not_le, -Int.not_lt, -getElem?_pos, -List.getD_eq_getElem?_getD, hcut, hn, hn2]
                refine CallJ.pure hE rfl (by simp [-Bool.exists_bool, -Int.not_le, -Int.not_lt, -getElem?_pos, -List.getD_eq_getElem?_getD]) ?_
                cases z3 <;> cases e2
                · simp -implicitDefEqProofs -dsimp +contextual [-Bool.exists_bool, -Int.not_le, -Int.not_lt, -getElem?_pos, -List.getD_eq_getElem?_getD]
                  exact fin
                · simp -implicitDefEqProofs -dsimp +contextual [-Bool.exists_bool, -Int.not_le, -Int.not_lt, -getElem?_pos, -List.getD_eq_getElem?_getD]
                  exact fin
                · simp -implicitDefEqProofs -dsimp +contextual [-Bool.exists_bool, -Int.not_le, -Int.not_lt, -getElem?_pos, -List.getD_eq_getElem?_getD]
                  exact fin
                · have hc := hc rfl rfl
                  try simp [-Bool.exists_bool, -Int.not_le, -Int.not_lt, -getElem?_pos, -List.getD_eq_getElem?_getD] at hc
                  subst hc
                  simp -implicitDefEqProofs -dsimp +contextual [-Bool.exists_bool, -Int.not_le, -Int.not_lt, -getElem?_pos, -List.getD_eq_getElem?_getD]
                  exact fin
              · by_cases z0 : x2 = 0
                · cases bhop
                  · simp only [p2, z0, decide_true, decide_false, Bool.false_or] at hi hc
                    simp -implicitDefEqProofs -dsimp +contextual [-Bool.exists_bool, -Int.not_le, -Int.not_lt, -getElem?_pos, -List.getD_eq_getElem?_getD, hcut, hn, hn2, p2, z0]
                    refine CallJ.pure hS rfl (by simp [-Bool.exists_bool, -Int.not_le, -Int.not_lt, -getElem?_pos, -List.getD_eq_getElem?_getD]) ?_
                    simp -implicitDefEqProofs -dsimp +contextual [-Bool.exists_bool, -Int.not_le, -Int.not_lt, -getElem?_pos, -List.getD_eq_getElem?_getD, hcut, hn, hn2]
                    refine CallJ.pure hE rfl (by simp [-Bool.exists_bool, -Int.not_le, -Int.not_lt, -getElem?_pos, -List.getD_eq_getElem?_getD]) ?_
                    cases z3 <;> cases e2
                    · simp -implicitDefEqProofs -dsimp +contextual [-Bool.exists_bool, -Int.not_le, -Int.not_lt, -getElem?_pos, -List.getD_eq_getElem?_getD]
                      exact fin
                    · simp -implicitDefEqProofs -dsimp +contextual [-Bool.exists_bool, -Int.not_le, -Int.not_lt, -getElem?_pos, -List.getD_eq_getElem?_getD]
                      exact fin
                    · simp -implicitDefEqProofs -dsimp +contextual [-Bool.exists_bool, -Int.not_le, -Int.not_lt, -getElem?_pos, -List.getD_eq_getElem?_getD]
                      exact fin
                    · have hc := hc rfl rfl
                      try simp [-Bool.exists_bool, -Int.not_le, -Int.not_lt, -getElem?_pos, -List.getD_eq_getElem?_getD] at hc
                      subst hc
                      simp -implicitDefEqProofs -dsimp +contextual [-Bool.exists_bool, -Int.not_le, -Int.not_lt, -getElem?_pos, -List.getD_eq_getElem?_getD]
                      exact fin
                  · simp only [p2, z0, decide_true, decide_false, Bool.false_or] at hi hc
                    simp -implicitDefEqProofs -dsimp +contextual [-Bool.exists_bool, -Int.not_le, -Int.not_lt, -getElem?_pos, -List.getD_eq_getElem?_getD, hcut, hn, hn2, p2, z0]
                    refine CallJ.pure hS rfl (by simp [-Bool.exists_bool, -Int.not_le, -Int.not_lt, -getElem?_pos, -List.getD_eq_getElem?_getD]) ?_
                    simp -implicitDefEqProofs -dsimp +contextual [-Bool.exists_bool, -Int.not_le, -Int.not_lt, -getElem?_pos, -List.getD_eq_getElem?_getD, hcut, hn, hn2]
                    refine CallJ.pure hE rfl (by simp [-Bool.exists_bool, -Int.not_le, -Int.not_lt, -getElem?_pos, -List.getD_eq_getElem?_getD]) ?_
                    cases z3 <;> cases e2
                    · simp -implicitDefEqProofs -dsimp +contextual [-Bool.exists_bool, -Int.not_le, -Int.not_lt, -getElem?_pos, -List.getD_eq_getElem?_getD]
                      exact fin
                    · simp -implicitDefEqProofs -dsimp +contextual [-Bool.exists_bool, -Int.not_le, -Int.not_lt, -getElem?_pos, -List.getD_eq_getElem?_getD]
                      exact fin
                    · simp -implicitDefEqProofs -dsimp +contextual [-Bool.exists_bool, -Int.not_le, -Int.not_lt, -getElem?_pos, -List.getD_eq_getElem?_getD]
                      exact fin
                    · have hc := hc rfl rfl
                      try simp [-Bool.exists_bool, -Int.not_le, -Int.not_lt, -getElem?_pos, -List.getD_eq_getElem?_getD] at hc
                      subst hc
                      simp -implicitDefEqProofs -dsimp +contextual [-Bool.exists_bool, -Int.not_le, -Int.not_lt, -getElem?_pos, -List.getD_eq_getElem?_getD]
                      exact fin
                · simp only [p2, z0, decide_true, decide_false, Bool.false_or, Bool.false_and] at hi hc
                  simp -implicitDefEqProofs -dsimp +contextual [-Bool.exists_bool, -Int.not_le, -Int.not_lt, -getElem?_pos, -List.getD_eq_getElem?_getD, hcut, hn, hn2, p2, z0]
                  refine CallJ.pure hS rfl (by simp [-Bool.exists_bool, -Int.not_le, -Int.not_lt, -getElem?_pos, -List.getD_eq_getElem?_getD]) ?_
                  simp -implicitDefEqProofs -dsimp +contextual [-Bool.exists_bool, -Int.not_le, -Int.not_lt, -getElem?_pos, -List.getD_eq_getElem?_getD, hcut, hn, hn2]
                  refine CallJ.pure hE rfl (by simp [-Bool.exists_bool, -Int.not_le, -Int.not_lt, -getElem?_pos, -List.getD_eq_getElem?_getD]) ?_
                  cases z3 <;> cases e2
                  · simp -implicitDefEqProofs -dsimp +contextual [-Bool.exists_bool, -Int.not_le, -Int.not_lt, -getElem?_pos, -List.getD_eq_getElem?_getD]
                    exact fin
                  · simp -implicitDefEqProofs -dsimp +contextual [-Bool.exists_bool, -Int.not_le, -Int.not_lt, -getElem?_pos, -List.getD_eq_getElem?_getD]
                    exact fin
                  · simp -implicitDefEqProofs -dsimp +contextual [-Bool.exists_bool, -Int.not_le, -Int.not_lt, -getElem?_pos, -List.getD_eq_getElem?_getD]
                    exact fin
                  · have hc := hc rfl rfl
                    try simp [-Bool.exists_bool, -Int.not_le, -Int.not_lt, -getElem?_pos, -List.getD_eq_getElem?_getD] at hc
                    subst hc
                    simp -implicitDefEqProofs -dsimp +contextual [-Bool.exists_bool, -Int.not_le, -Int.not_lt, -getElem?_pos, -List.getD_eq_getElem?_getD]
                    exact fin
            · by_cases z1 : x1 = 0
              · cases blop
                · simp only [p1, z1, decide_true, decide_false, Bool.false_or] at hi hc
                  simp -implicitDefEqProofs -dsimp +contextual [-Bool.exists_bool, -Int.not_le, -Int.not_lt, -getElem?_pos, -List.getD_eq_getElem?_getD, hcut, hn, hn2, p1, z1]
                  refine CallJ.pure hC2 rfl (by simp [-Bool.exists_bool, -Int.not_le, -Int.not_lt, -getElem?_pos, -List.getD_eq_getElem?_getD]) ?_
                  by_cases p2 : x2 < 0
                  · simp only [p2, decide_true, Bool.true_or, Bool.or_true] at hi hc
                    simp -implicitDefEqProofs -dsimp +contextual [-Bool.exists_bool, -Int.not_le, -Int.not_lt, -getElem?_pos, -List.getD_eq_getElem?_getD, hcut, hn, hn2, p2]
                    refine CallJ.pure hS rfl (by simp [-Bool.exists_bool, -Int.not_le, -Int.not_lt, -getElem?_pos, -List.getD_eq_getElem?_getD]) ?_
                    simp -implicitDefEqProofs -dsimp +contextual [-Bool.exists_bool, -Int.not_le, -Int.not_lt, -getElem?_pos, -List.getD_eq_getElem?_getD, hcut, hn, hn2]
                    refine CallJ.pure hE rfl (by simp [-Bool.exists_bool, -Int.not_le, -Int.not_lt, -getElem?_pos, -List.getD_eq_getElem?_getD]) ?_
                    cases z3 <;> cases e2
                    · simp -implicitDefEqProofs -dsimp +contextual [-Bool.exists_bool, -Int.not_le, -Int.not_lt, -getElem?_pos, -List.getD_eq_getElem?_getD]
                      exact fin
                    · simp -implicitDefEqProofs -dsimp +contextual [-Bool.exists_bool, -Int.not_le, -Int.not_lt, -getElem?_pos, -List.getD_eq_getElem?_getD]
                      exact fin
                    · simp -implicitDefEqProofs -dsimp +contextual [-Bool.exists_bool, -Int.not_le, -Int.not_lt, -getElem?_pos, -List.getD_eq_getElem?_getD]
                      exact fin
                    · have hc := hc rfl rfl
                      try simp [-Bool.exists_bool, -Int.not_le, -Int.not_lt, -getElem?_pos, -List.getD_eq_getElem?_getD] at hc
                      subst hc
                      simp -implicitDefEqProofs -dsimp +contextual [-Bool.exists_bool, -Int.not_le, -Int.not_lt, -getElem?_pos, -List.getD_eq_getElem?_getD]
                      exact fin
                  · by_cases z0 : x2 = 0
                    · cases bhop
                      · simp only [p2, z0, decide_true, decide_false, Bool.false_or] at hi hc
                        simp -implicitDefEqProofs -dsimp +contextual [-Bool.exists_bool, -Int.not_le, -Int.not_lt, -getElem?_pos, -List.getD_eq_getElem?_getD, hcut, hn, hn2, p2, z0]
                        refine CallJ.pure hS rfl (by simp [-Bool.exists_bool, -Int.not_le, -Int.not_lt, -getElem?_pos, -List.getD_eq_getElem?_getD]) ?_
                        simp -implicitDefEqProofs -dsimp +contextual [-Bool.exists_bool, -Int.not_le, -Int.not_lt, -getElem?_pos, -List.getD_eq_getElem?_getD, hcut, hn, hn2]
                        refine CallJ.pure hE rfl (by simp [-Bool.exists_bool, -Int.not_le, -Int.not_lt, -getElem?_pos, -List.getD_eq_getElem?_getD]) ?_
                        cases z3 <;> cases e2
                        · simp -implicitDefEqProofs -dsimp +contextual [-Bool.exists_bool, -Int.not_le, -Int.not_lt, -getElem?_pos, -List.getD_eq_getElem?_getD]
                          exact fin
                        · simp -implicitDefEqProofs -dsimp +contextual [-Bool.exists_bool, -Int.not_le, -Int.not_lt, -getElem?_pos, -List.getD_eq_getElem?_getD]
                          exact fin
                        · simp -implicitDefEqProofs -dsimp +contextual [-Bool.exists_bool, -Int.not_le, -Int.not_lt, -getElem?_pos, -List.getD_eq_getElem?_getD]
                          exact fin
                        · have hc := hc rfl rfl
                          try simp [-Bool.exists_bool, -Int.not_le, -Int.not_lt, -getElem?_pos, -List.getD_eq_getElem?_getD] at hc
                          subst hc
                          simp -implicitDefEqProofs -dsimp +contextual [-Bool.exists_bool, -Int.not_le, -Int.not_lt, -getElem?_pos, -List.getD_eq_getElem?_getD]
                          exact fin
                      · simp only [p2, z0, decide_true, decide_false, Bool.false_or] at hi hc
                        simp -implicitDefEqProofs -dsimp +contextual [-Bool.exists_bool, -Int.not_le, -Int.not_lt, -getElem?_pos, -List.getD_eq_getElem?_getD, hcut, hn, hn2, p2, z0]
                        refine CallJ.pure hS rfl (by simp [-Bool.exists_bool, -Int.not_le, -Int.not_lt, -getElem?_pos, -List.getD_eq_getElem?_getD]) ?_
                        simp -implicitDefEqProofs -dsimp +contextual [-Bool.exists_bool, -Int.not_le, -Int.not_lt, -getElem?_pos, -List.getD_eq_getElem?_getD, hcut, hn, hn2]
                        refine CallJ.pure hE rfl (by simp [-Bool.exists_bool, -Int.not_le, -Int.not_lt, -getElem?_pos, -List.getD_eq_getElem?_getD]) ?_
                        cases z3 <;> cases e2
                        · simp -implicitDefEqProofs -dsimp +contextual [-Bool.exists_bool, -Int.not_le, -Int.not_lt, -getElem?_pos, -List.getD_eq_getElem?_getD]
                          exact fin
                        · simp -implicitDefEqProofs -dsimp +contextual [-Bool.exists_bool, -Int.not_le, -Int.not_lt, -getElem?_pos, -List.getD_eq_getElem?_getD]
                          exact fin
                        · simp -implicitDefEqProofs -dsimp +contextual [-Bool.exists_bool, -Int.not_le, -Int.not_lt, -getElem?_pos, -List.getD_eq_getElem?_getD]
                          exact fin
                        · have hc := hc rfl rfl
                          try simp [-Bool.exists_bool, -Int.not_le, -Int.not_lt, -getElem?_pos, -List.getD_eq_getElem?_getD] at hc
                          subst hc
                          simp -implicitDefEqProofs -dsimp +contextual [-Bool.exists_bool, -Int.not_le, -Int.not_lt, -getElem?_pos, -List.getD_eq_getElem?_getD]
                          exact fin
                    · simp only [p2, z0, decide_true, decide_false, Bool.false_or, Bool.false_and] at hi hc
                      simp -implicitDefEqProofs -dsimp +contextual [-Bool.exists_bool, -Int.not_le, -Int.not_lt, -getElem?_pos, -List.getD_eq_getElem?_getD, hcut, hn, hn2, p2, z0]
                      refine CallJ.pure hS rfl (by simp [-Bool.exists_bool, -Int.not_le, -Int.not_lt, -getElem?_pos, -List.getD_eq_getElem?_getD]) ?_
                      simp -implicitDefEqProofs -dsimp +contextual [-Bool.exists_bool, -Int.not_le, -Int.not_lt, -getElem?_pos, -List.getD_eq_getElem?_getD, hcut, hn, hn2]
                      refine CallJ.pure hE rfl (by simp [-Bool.exists_bool, -Int.not_le, -Int.not_lt, -getElem?_pos, -List.getD_eq_getElem?_getD]) ?_
                      cases z3 <;> cases e2
                      · simp -implicitDefEqProofs -dsimp +contextual [-Bool.exists_bool, -Int.not_le, -Int.not_lt, -getElem?_pos, -List.getD_eq_getElem?_getD]
                        exact fin
                      · simp -implicitDefEqProofs -dsimp +contextual [-Bool.exists_bool, -Int.not_le, -Int.not_lt, -getElem?_pos, -List.getD_eq_getElem?_getD]
                        exact fin
                      · simp -implicitDefEqProofs -dsimp +contextual [-Bool.exists_bool, -Int.not_le, -Int.not_lt, -getElem?_pos, -List.getD_eq_getElem?_getD]
                        exact fin
                      · have hc := hc rfl rfl
                        try simp [-Bool.exists_bool, -Int.not_le, -Int.not_lt, -getElem?_pos, -List.getD_eq_getElem?_getD] at hc
                        subst hc
                        simp -implicitDefEqProofs -dsimp +contextual [-Bool.exists_bool, -Int.not_le, -Int.not_lt, -getElem?_pos, -List.getD_eq_getElem?_getD]
                        exact fin
                · simp only [p1, z1, decide_true, decide_false, Bool.false_or] at hi hc
                  simp -implicitDefEqProofs -dsimp +contextual [-Bool.exists_bool, -Int.not_le, -Int.not_lt, -getElem?_pos, -List.getD_eq_getElem?_getD, hcut, hn, hn2, p1, z1]
                  refine CallJ.pure hC2 rfl (by simp [-Bool.exists_bool, -Int.not_le, -Int.not_lt, -getElem?_pos, -List.getD_eq_getElem?_getD]) ?_
                  simp -implicitDefEqProofs -dsimp +contextual [-Bool.exists_bool, -Int.not_le, -Int.not_lt, -getElem?_pos, -List.getD_eq_getElem?_getD, hcut, hn, hn2]
                  refine CallJ.pure hS rfl (by simp [-Bool.exists_bool, -Int.not_le, -Int.not_lt, -getElem?_pos, -List.getD_eq_getElem?_getD]) ?_
                  simp -implicitDefEqProofs -dsimp +contextual [-Bool.exists_bool, -Int.not_le, -Int.not_lt, -getElem?_pos, -List.getD_eq_getElem?_getD, hcut, hn, hn2]
                  refine CallJ.pure hE rfl (by simp [-Bool.exists_bool, -Int.not_le, -Int.not_lt, -getElem?_pos, -List.getD_eq_getElem?_getD]) ?_
                  cases z3 <;> cases e2
                  · simp -implicitDefEqProofs -dsimp +contextual [-Bool.exists_bool, -Int.not_le, -Int.not_lt, -getElem?_pos, -List.getD_eq_getElem?_getD]
                    exact fin
                  · simp -implicitDefEqProofs -dsimp +contextual [-Bool.exists_bool, -Int.not_le, -Int.not_lt, -getElem?_pos, -List.getD_eq_getElem?_getD]
                    exact fin
                  · simp -implicitDefEqProofs -dsimp +contextual [-Bool.exists_bool, -Int.not_le, -Int.not_lt, -getElem?_pos, -List.getD_eq_getElem?_getD]
                    exact fin
                  · have hc := hc rfl rfl
                    try simp [-Bool.exists_bool, -Int.not_le, -Int.not_lt, -getElem?_pos, -List.getD_eq_getElem?_getD] at hc
                    subst hc
                    simp -implicitDefEqProofs -dsimp +contextual [-Bool.exists_bool, -Int.not_le, -Int.not_lt, -getElem?_pos, -List.getD_eq_getElem?_getD]
                    exact fin
              · simp only [p1, z1, decide_true, decide_false, Bool.false_or, Bool.false_and] at hi hc
                simp -implicitDefEqProofs -dsimp +contextual [-Bool.exists_bool, -Int.not_le, -Int.not_lt, -getElem?_pos, -List.getD_eq_getElem?_getD, hcut, hn, hn2, p1, z1]
                refine CallJ.pure hC2 rfl (by simp [-Bool.exists_bool, -Int.not_le, -Int.not_lt, -getElem?_pos, -List.getD_eq_getElem?_getD]) ?_
                simp -implicitDefEqProofs -dsimp +contextual [-Bool.exists_bool, -Int.not_le, -Int.not_lt, -getElem?_pos, -List.getD_eq_getElem?_getD, hcut, hn, hn2]
                refine CallJ.pure hS rfl (by simp [-Bool.exists_bool, -Int.not_le, -Int.not_lt, -getElem?_pos, -List.getD_eq_getElem?_getD]) ?_
                simp -implicitDefEqProofs -dsimp +contextual [-Bool.exists_bool, -Int.not_le, -Int.not_lt, -getElem?_pos, -List.getD_eq_getElem?_getD, hcut, hn, hn2]
                refine CallJ.pure hE rfl (by simp [-Bool.exists_bool, -Int.not_le, -Int.not_lt, -getElem?_pos, -List.getD_eq_getElem?_getD]) ?_
                cases z3 <;> cases e2
                · simp -implicitDefEqProofs -dsimp +contextual [-Bool.exists_bool, -Int.not_le, -Int.not_lt, -getElem?_pos, -List.getD_eq_getElem?_getD]
                  exact fin
                · simp -implicitDefEqProofs -dsimp +contextual [-Bool.exists_bool, -Int.not_le, -Int.not_lt, -getElem?_pos, -List.getD_eq_getElem?_getD]
                  exact fin
                · simp -implicitDefEqProofs -dsimp +contextual [-Bool.exists_bool, -Int.not_le, -Int.not_lt, -getElem?_pos, -List.getD_eq_getElem?_getD]
                  exact fin
                · have hc := hc rfl rfl
                  try simp [-Bool.exists_bool, -Int.not_le, -Int.not_lt, -getElem?_pos, -List.getD_eq_getElem?_getD] at hc
                  subst hc
                  simp -implicitDefEqProofs -dsimp +contextual [-Bool.exists_bool, -Int.not_le, -Int.not_lt, -getElem?_pos, -List.getD_eq_getElem?_getD]
                  exact fin
      · cases bhl
        · cases bhh
          · simp -implicitDefEqProofs -dsimp +contextual [-Bool.exists_bool, -Int.not_le, -Int.not_lt, -getElem?_pos, -List.getD_eq_getElem?_getD, hcut, hn, hn2]
            refine CallJ.pure hS rfl (by simp [-Bool.exists_bool, -Int.not_le, -Int.not_lt, -getElem?_pos, -List.getD_eq_getElem?_getD]) ?_
            simp -implicitDefEqProofs -dsimp +contextual [-Bool.exists_bool, -Int.not_le, -Int.not_lt, -getElem?_pos, -List.getD_eq_getElem?_getD, hcut, hn, hn2]
            refine CallJ.pure hE rfl (by simp [-Bool.exists_bool, -Int.not_le, -Int.not_lt, -getElem?_pos, -List.getD_eq_getElem?_getD]) ?_
            cases z3 <;> cases e2
            · simp -implicitDefEqProofs -dsimp +contextual [-Bool.exists_bool, -Int.not_le, -Int.not_lt, -getElem?_pos, -List.getD_eq_getElem?_getD]
              exact fin
            · simp -implicitDefEqProofs -dsimp +contextual [-Bool.exists_bool, -Int.not_le, -Int.not_lt, -getElem?_pos, -List.getD_eq_getElem?_getD]
              exact fin
            · simp -implicitDefEqProofs -dsimp +contextual [-Bool.exists_bool, -Int.not_le, -Int.not_lt, -getElem?_pos, -List.getD_eq_getElem?_getD]
              exact fin
            · have hc := hc rfl rfl
              try simp [-Bool.exists_bool, -Int.not_le, -Int.not_lt, -getElem?_pos, -List.getD_eq_getElem?_getD] at hc
              subst hc
              simp -implicitDefEqProofs -dsimp +contextual [-Bool.exists_bool, -Int.not_le, -Int.not_lt, -getElem?_pos, -List.getD_eq_getElem?_getD]
              exact fin
          · simp -implicitDefEqProofs -dsimp +contextual [-Bool.exists_bool, -Int.not_le, -Int.not_lt, -getElem?_pos, -List.getD_eq_getElem?_getD, hcut, hn, hn2]
            refine CallJ.pure hC2 rfl (by simp [-Bool.exists_bool, -Int.not_le, -Int.not_lt, -getElem?_pos, -List.getD_eq_getElem?_getD]) ?_
            simp -implicitDefEqProofs -dsimp +contextual [-Bool.exists_bool, -Int.not_le, -Int.not_lt, -getElem?_pos, -List.getD_eq_getElem?_getD, hcut, hn, hn2]
            refine CallJ.pure hS rfl (by simp [-Bool.exists_bool, -Int.not_le, -Int.not_lt, -getElem?_pos, -List.getD_eq_getElem?_getD]) ?_
            simp -implicitDefEqProofs -dsimp +contextual [-Bool.exists_bool, -Int.not_le, -Int.not_lt, -getElem?_pos, -List.getD_eq_getElem?_getD, hcut, hn, hn2]
            refine CallJ.pure hE rfl (by simp [-Bool.exists_bool, -Int.not_le, -Int.not_lt, -getElem?_pos, -List.getD_eq_getElem?_getD]) ?_
            cases z3 <;> cases e2
            · simp -implicitDefEqProofs -dsimp +contextual [-Bool.exists_bool, -Int.not_le, -Int.not_lt, -getElem?_pos, -List.getD_eq_getElem?_getD]
              exact fin
            · simp -implicitDefEqProofs -dsimp +contextual [-Bool.exists_bool, -Int.not_le, -Int.not_lt, -getElem?_pos, -List.getD_eq_getElem?_getD]
              exact fin
            · simp -implicitDefEqProofs -dsimp +contextual [-Bool.exists_bool, -Int.not_le, -Int.not_lt, -getElem?_pos, -List.getD_eq_getElem?_getD]
              exact fin
            · have hc := hc rfl rfl
              try simp [-Bool.exists_bool, -Int.not_le, -Int.not_lt, -getElem?_pos, -List.getD_eq_getElem?_getD] at hc
              subst hc
              simp -implicitDefEqProofs -dsimp +contextual [-Bool.exists_bool, -Int.not_le, -Int.not_lt, -getElem?_pos, -List.getD_eq_getElem?_getD]
              exact fin
        · cases bhh
          · simp -implicitDefEqProofs -dsimp +contextual [-Bool.exists_bool, -Int.not_le, -Int.not_lt, -getElem?_pos, -List.getD_eq_getElem?_getD, hcut, hn, hn2]
            refine CallJ.pure hC1 rfl (by simp [-Bool.exists_bool, -Int.not_le, -Int.not_lt, -getElem?_pos, -List.getD_eq_getElem?_getD]) ?_
            simp -implicitDefEqProofs -dsimp +contextual [-Bool.exists_bool, -Int.not_le, -Int.not_lt, -getElem?_pos, -List.getD_eq_getElem?_getD, hcut, hn, hn2]
            refine CallJ.pure hS rfl (by simp [-Bool.exists_bool, -Int.not_le, -Int.not_lt, -getElem?_pos, -List.getD_eq_getElem?_getD]) ?_
            simp -implicitDefEqProofs -dsimp +contextual [-Bool.exists_bool, -Int.not_le, -Int.not_lt, -getElem?_pos, -List.getD_eq_getElem?_getD, hcut, hn, hn2]
            refine CallJ.pure hE rfl (by simp [-Bool.exists_bool, -Int.not_le, -Int.not_lt, -getElem?_pos, -List.getD_eq_getElem?_getD]) ?_
            cases z3 <;> cases e2
            · simp -implicitDefEqProofs -dsimp +contextual [-Bool.exists_bool, -Int.not_le, -Int.not_lt, -getElem?_pos, -List.getD_eq_getElem?_getD]
              exact fin
            · simp -implicitDefEqProofs -dsimp +contextual [-Bool.exists_bool, -Int.not_le, -Int.not_lt, -getElem?_pos, -List.getD_eq_getElem?_getD]
              exact fin
            · simp -implicitDefEqProofs -dsimp +contextual [-Bool.exists_bool, -Int.not_le, -Int.not_lt, -getElem?_pos, -List.getD_eq_getElem?_getD]
              exact fin
            · have hc := hc rfl rfl
              try simp [-Bool.exists_bool, -Int.not_le, -Int.not_lt, -getElem?_pos, -List.getD_eq_getElem?_getD] at hc
              subst hc
              simp -implicitDefEqProofs -dsimp +contextual [-Bool.exists_bool, -Int.not_le, -Int.not_lt, -getElem?_pos, -List.getD_eq_getElem?_getD]
              exact fin
          · simp -implicitDefEqProofs -dsimp +contextual [-Bool.exists_bool, -Int.not_le, -Int.not_lt, -getElem?_pos, -List.getD_eq_getElem?_getD, hcut, hn, hn2]
            refine CallJ.pure hC1 rfl (by simp [-Bool.exists_bool, -Int.not_le, -Int.not_lt, -getElem?_pos, -List.getD_eq_getElem?_getD]) ?_
            simp -implicitDefEqProofs -dsimp +contextual [-Bool.exists_bool, -Int.not_le, -Int.not_lt, -getElem?_pos, -List.getD_eq_getElem?_getD, hcut, hn, hn2]
            refine CallJ.pure hC2 rfl (by simp [-Bool.exists_bool, -Int.not_le, -Int.not_lt, -getElem?_pos, -List.getD_eq_getElem?_getD]) ?_
            simp -implicitDefEqProofs -dsimp +contextual [-Bool.exists_bool, -Int.not_le, -Int.not_lt, -getElem?_pos, -List.getD_eq_getElem?_getD, hcut, hn, hn2]
            refine CallJ.pure hS rfl (by simp [-Bool.exists_bool, -Int.not_le, -Int.not_lt, -getElem?_pos, -List.getD_eq_getElem?_getD]) ?_
            simp -implicitDefEqProofs -dsimp +contextual [-Bool.exists_bool, -Int.not_le, -Int.not_lt, -getElem?_pos, -List.getD_eq_getElem?_getD, hcut, hn, hn2]
            refine CallJ.pure hE rfl (by simp [-Bool.exists_bool, -Int.not_le, -Int.not_lt, -getElem?_pos, -List.getD_eq_getElem?_getD]) ?_
            cases z3 <;> cases e2
            · simp -implicitDefEqProofs -dsimp +contextual [-Bool.exists_bool, -Int.not_le, -Int.not_lt, -getElem?_pos, -List.getD_eq_getElem?_getD]
              exact fin
            · simp -implicitDefEqProofs -dsimp +contextual [-Bool.exists_bool, -Int.not_le, -Int.not_lt, -getElem?_pos, -List.getD_eq_getElem?_getD]
              exact fin
            · simp -implicitDefEqProofs -dsimp +contextual [-Bool.exists_bool, -Int.not_le, -Int.not_lt, -getElem?_pos, -List.getD_eq_getElem?_getD]
              exact fin
            · have hc := hc rfl rfl
              try simp [-Bool.exists_bool, -Int.not_le, -Int.not_lt, -getElem?_pos, -List.getD_eq_getElem?_getD] at hc
              subst hc
              simp -implicitDefEqProofs -dsimp +contextual [-Bool.exists_bool, -Int.not_le, -Int.not_lt, -getElem?_pos, -List.getD_eq_getElem?_getD]
              exact fin
    · cases q1
      · cases bem
        · cases bhl
          · cases bhh
            · simp only [Bool.not_false, Bool.not_true, Bool.true_and, Bool.false_and, Bool.true_or, Bool.false_or, Bool.and_true] at hi hc
              simp -implicitDefEqProofs -dsimp +contextual [-Bool.exists_bool, -Int.not_le, -Int.not_lt, -getElem?_pos, -List.getD_eq_getElem?_getD, hcut, hn, hn2]
              refine CallJ.pure hS rfl (by simp [-Bool.exists_bool, -Int.not_le, -Int.not_lt, -getElem?_pos, -List.getD_eq_getElem?_getD]) ?_
              simp -implicitDefEqProofs -dsimp +contextual [-Bool.exists_bool, -Int.not_le, -Int.not_lt, -getElem?_pos, -List.getD_eq_getElem?_getD, hcut, hn, hn2]
              refine CallJ.pure hE rfl (by simp [-Bool.exists_bool, -Int.not_le, -Int.not_lt, -getElem?_pos, -List.getD_eq_getElem?_getD]) ?_
              cases z3 <;> cases e2
              · simp -implicitDefEqProofs -dsimp +contextual [-Bool.exists_bool, -Int.not_le, -Int.not_lt, -getElem?_pos, -List.getD_eq_getElem?_getD]
                exact fin
              · simp -implicitDefEqProofs -dsimp +contextual [-Bool.exists_bool, -Int.not_le, -Int.not_lt, -getElem?_pos, -List.getD_eq_getElem?_getD]
                exact fin
              · simp -implicitDefEqProofs -dsimp +contextual [-Bool.exists_bool, -Int.not_le, -Int.not_lt, -getElem?_pos, -List.getD_eq_getElem?_getD]
                exact fin
              · have hc := hc rfl rfl
                try simp [-Bool.exists_bool, -Int.not_le, -Int.not_lt, -getElem?_pos, -List.getD_eq_getElem?_getD] at hc
                subst hc
                simp -implicitDefEqProofs -dsimp +contextual [-Bool.exists_bool, -Int.not_le, -Int.not_lt, -getElem?_pos, -List.getD_eq_getElem?_getD]
                exact fin
            · simp only [Bool.not_false, Bool.not_true, Bool.true_and, Bool.false_and, Bool.true_or, Bool.false_or, Bool.and_true] at hi hc
              simp -implicitDefEqProofs -dsimp +contextual [-Bool.exists_bool, -Int.not_le, -Int.not_lt, -getElem?_pos, -List.getD_eq_getElem?_getD, hcut, hn, hn2]
              refine CallJ.pure hC2 rfl (by simp [-Bool.exists_bool, -Int.not_le, -Int.not_lt, -getElem?_pos, -List.getD_eq_getElem?_getD]) ?_
              by_cases p2 : x2 < 0
              · simp only [p2, decide_true, Bool.true_or, Bool.or_true] at hi hc
                simp -implicitDefEqProofs -dsimp +contextual [-Bool.exists_bool, -Int.not_le, -Int.not_lt, -getElem?_pos, -List.getD_eq_getElem?_getD, hcut, hn, hn2, p2]
                refine CallJ.pure hS rfl (by simp [-Bool.exists_bool, -Int.not_le, -Int.not_lt, -getElem?_pos, -List.getD_eq_getElem?_getD]) ?_
                simp -implicitDefEqProofs -dsimp +contextual [-Bool.exists_bool, -Int.not_le, -Int.not_lt, -getElem?_pos, -List.getD_eq_getElem?_getD, hcut, hn, hn2]
                refine CallJ.pure hE rfl (by simp [-Bool.exists_bool, -Int.not_le, -Int.not_lt, -getElem?_pos, -List.getD_eq_getElem?_getD]) ?_
                cases z3 <;> cases e2
                · simp -implicitDefEqProofs -dsimp +contextual [-Bool.exists_bool, -Int.not_le, -Int.not_lt, -getElem?_pos, -List.getD_eq_getElem?_getD]
                  exact fin
                · simp -implicitDefEqProofs -dsimp +contextual [-Bool.exists_bool, -Int.not_le, -Int.not_lt, -getElem?_pos, -List.getD_eq_getElem?_getD]
                  exact fin
                · simp -implicitDefEqProofs -dsimp +contextual [-Bool.exists_bool, -Int.not_le, -Int.not_lt, -getElem?_pos, -List.getD_eq_getElem?_getD]
                  exact fin
                · have hc := hc rfl rfl
                  try simp [-Bool.exists_bool, -Int.not_le, -Int.not_lt, -getElem?_pos, -List.getD_eq_getElem?_getD] at hc
                  subst hc
                  simp -implicitDefEqProofs -dsimp +contextual [-Bool.exists_bool, -Int.not_le, -Int.not_lt, -getElem?_pos, -List.getD_eq_getElem?_getD]
                  exact fin
              · by_cases z0 : x2 = 0
                · cases bhop
                  · simp only [p2, z0, decide_true, decide_false, Bool.false_or] at hi hc
                    simp -implicitDefEqProofs -dsimp +contextual [-Bool.exists_bool, -Int.not_le, -Int.not_lt, -getElem?_pos, -List.getD_eq_getElem?_getD, hcut, hn, hn2, p2, z0]
                    refine CallJ.pure hS rfl (by simp [-Bool.exists_bool, -Int.not_le, -Int.not_lt, -getElem?_pos, -List.getD_eq_getElem?_getD]) ?_
                    simp -implicitDefEqProofs -dsimp +contextual [-Bool.exists_bool, -Int.not_le, -Int.not_lt, -getElem?_pos, -List.getD_eq_getElem?_getD, hcut, hn, hn2]
                    refine CallJ.pure hE rfl (by simp [-Bool.exists_bool, -Int.not_le, -Int.not_lt, -getElem?_pos, -List.getD_eq_getElem?_getD]) ?_
                    cases z3 <;> cases e2
                    · simp -implicitDefEqProofs -dsimp +contextual [-Bool.exists_bool, -Int.not_le, -Int.not_lt, -getElem?_pos, -List.getD_eq_getElem?_getD]
                      exact fin
                    · simp -implicitDefEqProofs -dsimp +contextual [-Bool.exists_bool, -Int.not_le, -Int.not_lt, -getElem?_pos, -List.getD_eq_getElem?_getD]
                      exact fin
                    · simp -implicitDefEqProofs -dsimp +contextual [-Bool.exists_bool, -Int.not_le, -Int.not_lt, -getElem?_pos, -List.getD_eq_getElem?_getD]
                      exact fin
                    · have hc := hc rfl rfl
                      try simp [-Bool.exists_bool, -Int.not_le, -Int.not_lt, -getElem?_pos, -List.getD_eq_getElem?_getD] at hc
                      subst hc
                      simp -implicitDefEqProofs -dsimp +contextual [-Bool.exists_bool, -Int.not_le, -Int.not_lt, -getElem?_pos, -List.getD_eq_getElem?_getD]
                      exact fin
                  · simp only [p2, z0, decide_true, decide_false, Bool.false_or] at hi hc
                    simp -implicitDefEqProofs -dsimp +contextual [-Bool.exists_bool, -Int.not_le, -Int.not_lt, -getElem?_pos, -List.getD_eq_getElem?_getD, hcut, hn, hn2, p2, z0]
                    refine CallJ.pure hS rfl (by simp [-Bool.exists_bool, -Int.not_le, -Int.not_lt, -getElem?_pos, -List.getD_eq_getElem?_getD]) ?_
                    simp -implicitDefEqProofs -dsimp +contextual [-Bool.exists_bool, -Int.not_le, -Int.not_lt, -getElem?_pos, -List.getD_eq_getElem?_getD, hcut, hn, hn2]
                    refine CallJ.pure hE rfl (by simp [-Bool.exists_bool, -Int.not_le, -Int.not_lt, -getElem?_pos, -List.getD_eq_getElem?_getD]) ?_
                    cases z3 <;> cases e2
                    · simp -implicitDefEqProofs -dsimp +contextual [-Bool.exists_bool, -Int.not_le, -Int.not_lt, -getElem?_pos, -List.getD_eq_getElem?_getD]
                      exact fin
                    · simp -implicitDefEqProofs -dsimp +contextual [-Bool.exists_bool, -Int.not_le, -Int.not_lt, -getElem?_pos, -List.getD_eq_getElem?_getD]
                      exact fin
                    · simp -implicitDefEqProofs -dsimp +contextual [-Bool.exists_bool, -Int.not_le, -Int.not_lt, -getElem?_pos, -List.getD_eq_getElem?_getD]
                      exact fin
                    · have hc := hc rfl rfl
                      try simp [-Bool.exists_bool, -Int.not_le, -Int.not_lt, -getElem?_pos, -List.getD_eq_getElem?_getD] at hc
                      subst hc
                      simp -implicitDefEqProofs -dsimp +contextual [-Bool.exists_bool, -Int.not_le, -Int.not_lt, -getElem?_pos, -List.getD_eq_getElem?_getD]
                      exact fin
                · simp only [p2, z0, decide_true, decide_false, Bool.false_or, Bool.false_and] at hi hc
                  simp -implicitDefEqProofs -dsimp +contextual [-Bool.exists_bool, -Int.not_le, -Int.not_lt, -getElem?_pos, -List.getD_eq_getElem?_getD, hcut, hn, hn2, p2, z0]
                  refine CallJ.pure hS rfl (by simp [-Bool.exists_bool, -Int.not_le, -Int.not_lt, -getElem?_pos, -List.getD_eq_getElem?_getD]) ?_
                  simp -implicitDefEqProofs -dsimp +contextual [-Bool.exists_bool, -Int.not_le, -Int.not_lt, -getElem?_pos, -List.getD_eq_getElem?_getD, hcut, hn, hn2]
                  refine CallJ.pure hE rfl (by simp [-Bool.exists_bool, -Int.not_le, -Int.not_lt, -getElem?_pos, -List.getD_eq_getElem?_getD]) ?_
                  cases z3 <;> cases e2
                  · simp -implicitDefEqProofs -dsimp +contextual [-Bool.exists_bool, -Int.not_le, -Int.not_lt, -getElem?_pos, -List.getD_eq_getElem?_getD]
                    exact fin
                  · simp -implicitDefEqProofs -dsimp +contextual [-Bool.exists_bool, -Int.not_le, -Int.not_lt, -getElem?_pos, -List.getD_eq_getElem?_getD]
                    exact fin
                  · simp -implicitDefEqProofs -dsimp +contextual [-Bool.exists_bool, -Int.not_le, -Int.not_lt, -getElem?_pos, -List.getD_eq_getElem?_getD]
                    exact fin
                  · have hc := hc rfl rfl
                    try simp [-Bool.exists_bool, -Int.not_le, -Int.not_lt, -getElem?_pos, -List.getD_eq_getElem?_getD] at hc
                    subst hc
                    simp -implicitDefEqProofs -dsimp +contextual [-Bool.exists_bool, -Int.not_le, -Int.not_lt, -getElem?_pos, -List.getD_eq_getElem?_getD]
                    exact fin
          · cases bhh
            · simp only [Bool.not_false, Bool.not_true, Bool.true_and, Bool.false_and, Bool.true_or, Bool.false_or, Bool.and_true] at hi hc
              simp -implicitDefEqProofs -dsimp +contextual [-Bool.exists_bool, -Int.not_le, -Int.not_lt, -getElem?_pos, -List.getD_eq_getElem?_getD, hcut, hn, hn2]
              refine CallJ.pure hC1 rfl (by simp [-Bool.exists_bool, -Int.not_le, -Int.not_lt, -getElem?_pos, -List.getD_eq_getElem?_getD]) ?_
              by_cases p1 : 0 < x1
              · simp only [p1, decide_true, Bool.true_or, Bool.or_true] at hi hc
                simp -implicitDefEqProofs -dsimp +contextual [-Bool.exists_bool, -Int.not_le, -Int.not_lt, -getElem?_pos, -List.getD_eq_getElem?_getD, hcut, hn, hn2, p1]
                refine CallJ.pure hS rfl (by simp [-Bool.exists_bool, -Int.not_le, -Int.not_lt, -getElem?_pos, -List.getD_eq_getElem?_getD]) ?_
                simp -implicitDefEqProofs -dsimp +contextual [-Bool.exists_bool, -Int.not_le, -Int.not_lt, -getElem?_pos, -List.getD_eq_getElem?_getD, hcut, hn, hn2]
                refine CallJ.pure hE rfl (by simp [-Bool.exists_bool, -Int.not_le, -Int.not_lt, -getElem?_pos, -List.getD_eq_getElem?_getD]) ?_
                cases z3 <;> cases e2
                · simp -implicitDefEqProofs -dsimp +contextual [-Bool.exists_bool, -Int.not_le, -Int.not_lt, -getElem?_pos, -List.getD_eq_getElem?_getD]
                  exact fin
                · simp -implicitDefEqProofs -dsimp +contextual [-Bool.exists_bool, -Int.not_le, -Int.not_lt, -getElem?_pos, -List.getD_eq_getElem?_getD]
                  exact fin
                · simp -implicitDefEqProofs -dsimp +contextual [-Bool.exists_bool, -Int.not_le, -Int.not_lt, -getElem?_pos, -List.getD_eq_getElem?_getD]
                  exact fin
                · have hc := hc rfl rfl
                  try simp [-Bool.exists_bool, -Int.not_le, -Int.not_lt, -getElem?_pos, -List.getD_eq_getElem?_getD] at hc
                  subst hc
                  simp -implicitDefEqProofs -dsimp +contextual [-Bool.exists_bool, -Int.not_le, -Int.not_lt, -getElem?_pos, -List.getD_eq_getElem?_getD]
                  exact fin
              · by_cases z1 : x1 = 0
                · cases blop
                  · simp only [p1, z1, decide_true, decide_false, Bool.false_or] at hi hc
                    simp -implicitDefEqProofs -dsimp +contextual [-Bool.exists_bool, -Int.not_le, -Int.not_lt, -getElem?_pos, -List.getD_eq_getElem?_getD, hcut, hn, hn2, p1, z1]
                    refine CallJ.pure hS rfl (by simp [-Bool.exists_bool, -Int.not_le, -Int.not_lt, -getElem?_pos, -List.getD_eq_getElem?_getD]) ?_
                    simp -implicitDefEqProofs -dsimp +contextual [-Bool.exists_bool, -Int.not_le, -Int.not_lt, -getElem?_pos, -List.getD_eq_getElem?_getD, hcut, hn, hn2]
                    refine CallJ.pure hE rfl (by simp [-Bool.exists_bool, -Int.not_le, -Int.not_lt, -getElem?_pos, -List.getD_eq_getElem?_getD]) ?_
                    cases z3 <;> cases e2
                    · simp -implicitDefEqProofs -dsimp +contextual [-Bool.exists_bool, -Int.not_le, -Int.not_lt, -getElem?_pos, -List.getD_eq_getElem?_getD]
                      exact fin
                    · simp -implicitDefEqProofs -dsimp +contextual [-Bool.exists_bool, -Int.not_le, -Int.not_lt, -getElem?_pos, -List.getD_eq_getElem?_getD]
                      exact fin
                    · simp -implicitDefEqProofs -dsimp +contextual [-Bool.exists_bool, -Int.not_le, -Int.not_lt, -getElem?_pos, -List.getD_eq_getElem?_getD]
                      exact fin
                    · have hc := hc rfl rfl
                      try simp [-Bool.exists_bool, -Int.not_le, -Int.not_lt, -getElem?_pos, -List.getD_eq_getElem?_getD] at hc
                      subst hc
                      simp -implicitDefEqProofs -dsimp +contextual [-Bool.exists_bool, -Int.not_le, -Int.not_lt, -getElem?_pos, -List.getD_eq_getElem?_getD]
                      exact fin
                  · simp only [p1, z1, decide_true, decide_false, Bool.false_or] at hi hc
                    simp -implicitDefEqProofs -dsimp +contextual [-Bool.exists_bool, -Int.not_le, -Int.not_lt, -getElem?_pos, -List.getD_eq_getElem?_getD, hcut, hn, hn2, p1, z1]
                    refine CallJ.pure hS rfl (by simp [-Bool.exists_bool, -Int.not_le, -Int.not_lt, -getElem?_pos, -List.getD_eq_getElem?_getD]) ?_
                    simp -implicitDefEqProofs -dsimp +contextual [-Bool.exists_bool, -Int.not_le, -Int.not_lt, -getElem?_pos, -List.getD_eq_getElem?_getD, hcut, hn, hn2]
                    refine CallJ.pure hE rfl (by simp [-Bool.exists_bool, -Int.not_le, -Int.not_lt, -getElem?_pos, -List.getD_eq_getElem?_getD]) ?_
                    cases z3 <;> cases e2
                    · simp -implicitDefEqProofs -dsimp +contextual [-Bool.exists_bool, -Int.not_le, -Int.not_lt, -getElem?_pos, -List.getD_eq_getElem?_getD]
                      exact fin
                    · simp -implicitDefEqProofs -dsimp +contextual [-Bool.exists_bool, -Int.not_le, -Int.not_lt, -getElem?_pos, -List.getD_eq_getElem?_getD]
                      exact fin
                    · simp -implicitDefEqProofs -dsimp +contextual [-Bool.exists_bool, -Int.not_le, -Int.not_lt, -getElem?_pos, -List.getD_eq_getElem?_getD]
                      exact fin
                    · have hc := hc rfl rfl
                      try simp [-Bool.exists_bool, -Int.not_le, -Int.not_lt, -getElem?_pos, -List.getD_eq_getElem?_getD] at hc
                      subst hc
                      simp -implicitDefEqProofs -dsimp +contextual [-Bool.exists_bool, -Int.not_le, -Int.not_lt, -getElem?_pos, -List.getD_eq_getElem?_getD]
                      exact fin
                · simp only [p1, z1, decide_true, decide_false, Bool.false_or, Bool.false_and] at hi hc
                  simp -implicitDefEqProofs -dsimp +contextual [-Bool.exists_bool, -Int.not_le, -Int.not_lt, -getElem?_pos, -List.getD_eq_getElem?_getD, hcut, hn, hn2, p1, z1]
                  refine CallJ.pure hS rfl (by simp [-Bool.exists_bool, -Int.not_le, -Int.not_lt, -getElem?_pos, -List.getD_eq_getElem?_getD]) ?_
                  simp -implicitDefEqProofs -dsimp +contextual [-Bool.exists_bool, -Int.not_le, -Int.not_lt, -getElem?_pos, -List.getD_eq_getElem?_getD, hcut, hn, hn2]
                  refine CallJ.pure hE rfl (by simp [-Bool.exists_bool, -Int.not_le, -Int.not_lt, -getElem?_pos, -List.getD_eq_getElem?_getD]) ?_
                  cases z3 <;> cases e2
                  · simp -implicitDefEqProofs -dsimp +contextual [-Bool.exists_bool, -Int.not_le, -Int.not_lt, -getElem?_pos, -List.getD_eq_getElem?_getD]
                    exact fin
                  · simp -implicitDefEqProofs -dsimp +contextual [-Bool.exists_bool, -Int.not_le, -Int.not_lt, -getElem?_pos, -List.getD_eq_getElem?_getD]
                    exact fin
                  · simp -implicitDefEqProofs -dsimp +contextual [-Bool.exists_bool, -Int.not_le, -Int.not_lt, -getElem?_pos, -List.getD_eq_getElem?_getD]
                    exact fin
                  · have hc := hc rfl rfl
                    try simp [-Bool.exists_bool, -Int.not_le, -Int.not_lt, -getElem?_pos, -List.getD_eq_getElem?_getD] at hc
                    subst hc
                    simp -implicitDefEqProofs -dsimp +contextual [-Bool.exists_bool, -Int.not_le, -Int.not_lt, -getElem?_pos, -List.getD_eq_getElem?_getD]
                    exact fin
            · simp only [Bool.not_false, Bool.not_true, Bool.true_and, Bool.false_and, Bool.true_or, Bool.false_or, Bool.and_true] at hi hc
              simp -implicitDefEqProofs -dsimp +contextual [-Bool.exists_bool, -Int.not_le, -Int.not_lt, -getElem?_pos, -List.getD_eq_getElem?_getD, hcut, hn, hn2]
              refine CallJ.pure hC1 rfl (by simp [-Bool.exists_bool, -Int.not_le, -Int.not_lt, -getElem?_pos, -List.getD_eq_getElem?_getD]) ?_
              by_cases p1 : 0 < x1
              · simp only [p1, decide_true, Bool.true_or, Bool.or_true] at hi hc
                simp -implicitDefEqProofs -dsimp +contextual [-Bool.exists_bool, -Int.not_le, -Int.not_lt, -getElem?_pos, -List.getD_eq_getElem?_getD, hcut, hn, hn2, p1]
                refine CallJ.pure hC2 rfl (by simp [-Bool.exists_bool, -Int.not_le, -Int.not_lt, -getElem?_pos, -List.getD_eq_getElem?_getD]) ?_
                by_cases p2 : x2 < 0
                · simp only [p2, decide_true, Bool.true_or, Bool.or_true] at hi hc
                  simp -implicitDefEqProofs -dsimp +contextual [-Bool.exists_bool, -Int.not_le, -Int.not_lt, -getElem?_pos, -List.getD_eq_getElem?_getD, hcut, hn, hn2, p2]
                  refine CallJ.pure hS rfl (by simp [-Bool.exists_bool, -Int.not_le, -Int.not_lt, -getElem?_pos, -List.getD_eq_getElem?_getD]) ?_
                  simp -implicitDefEqProofs -dsimp +contextual [-Bool.exists_bool, -Int.not_le, -Int.not_lt, -getElem?_pos, -List.getD_eq_getElem?_getD, hcut, hn, hn2]
                  refine CallJ.pure hE rfl (by simp [-Bool.exists_bool, -Int.not_le, -Int.not_lt, -getElem?_pos, -List.getD_eq_getElem?_getD]) ?_
                  cases z3 <;> cases e2
                  · simp -implicitDefEqProofs -dsimp +contextual [-Bool.exists_bool, -Int.not_le, -Int.not_lt, -getElem?_pos, -List.getD_eq_getElem?_getD]
                    exact fin
                  · simp -implicitDefEqProofs -dsimp +contextual [-Bool.exists_bool, -Int.not_le, -Int.not_lt, -getElem?_pos, -List.getD_eq_getElem?_getD]
                    exact fin
                  · simp -implicitDefEqProofs -dsimp +contextual [-Bool.exists_bool, -Int.not_le, -Int.not_lt, -getElem?_pos, -List.getD_eq_getElem?_getD]
                    exact fin
                  · have hc := hc rfl rfl
                    try simp [-Bool.exists_bool, -Int.not_le, -Int.not_lt, -getElem?_pos, -List.getD_eq_getElem?_getD] at hc
                    subst hc
                    simp -implicitDefEqProofs -dsimp +contextual [-Bool.exists_bool, -Int.not_le, -Int.not_lt, -getElem?_pos, -List.getD_eq_getElem?_getD]
                    exact fin
                · by_cases z0 : x2 = 0
                  · cases bhop
                    · simp only [p2, z0, decide_true, decide_false, Bool.false_or] at hi hc
                      simp -implicitDefEqProofs -dsimp +contextual [-Bool.exists_bool, -Int.not_le, -Int.not_lt, -getElem?_pos, -List.getD_eq_getElem?_getD, hcut, hn, hn2, p2, z0]
                      refine CallJ.pure hS rfl (by simp [-Bool.exists_bool, -Int.not_le, -Int.not_lt, -getElem?_pos, -List.getD_eq_getElem?_getD]) ?_
                      simp -implicitDefEqProofs -dsimp +contextual [-Bool.exists_bool, -Int.not_le, -Int.not_lt, -getElem?_pos, -List.getD_eq_getElem?_getD, hcut, hn, hn2]
                      refine CallJ.pure hE rfl (by simp [-Bool.exists_bool, -Int.not_le, -Int.not_lt, -getElem?_pos, -List.getD_eq_getElem?_getD]) ?_
                      cases z3 <;> cases e2
                      · simp -implicitDefEqProofs -dsimp +contextual [-Bool.exists_bool, -Int.not_le, -Int.not_lt, -getElem?_pos, -List.getD_eq_getElem?_getD]
                        exact fin
                      · simp -implicitDefEqProofs -dsimp +contextual [-Bool.exists_bool, -Int.not_le, -Int.not_lt, -getElem?_pos, -List.getD_eq_getElem?_getD]
                        exact fin
                      · simp -implicitDefEqProofs -dsimp +contextual [-Bool.exists_bool, -Int.not_le, -Int.not_lt, -getElem?_pos, -List.getD_eq_getElem?_getD]
                        exact fin
                      · have hc := hc rfl rfl
                        try simp [-Bool.exists_bool, -Int.not_le, -Int.not_lt, -getElem?_pos, -List.getD_eq_getElem?_getD] at hc
                        subst hc
                        simp -implicitDefEqProofs -dsimp +contextual [-Bool.exists_bool, -Int.not_le, -Int.not_lt, -getElem?_pos, -List.getD_eq_getElem?_getD]
                        exact fin
                    · simp only [p2, z0, decide_true, decide_false, Bool.false_or] at hi hc
                      simp -implicitDefEqProofs -dsimp +contextual [-Bool.exists_bool, -Int.not_le, -Int.not_lt, -getElem?_pos, -List.getD_eq_getElem?_getD, hcut, hn, hn2, p2, z0]
                      refine CallJ.pure hS rfl (by simp [-Bool.exists_bool, -Int.not_le, -Int.not_lt, -getElem?_pos, -List.getD_eq_getElem?_getD]) ?_
                      simp -implicitDefEqProofs -dsimp +contextual [-Bool.exists_bool, -Int.not_le, -Int.not_lt, -getElem?_pos, -List.getD_eq_getElem?_getD, hcut, hn, hn2]
                      refine CallJ.pure hE rfl (by simp [-Bool.exists_bool, -Int.not_le, -Int.not_lt, -getElem?_pos, -List.getD_eq_getElem?_getD]) ?_
                      cases z3 <;> cases e2
                      · simp -implicitDefEqProofs -dsimp +contextual [-Bool.exists_bool, -Int.not_le, -Int.not_lt, -getElem?_pos, -List.getD_eq_getElem?_getD]
                        exact fin
                      · simp -implicitDefEqProofs -dsimp +contextual [-Bool.exists_bool, -Int.not_le, -Int.not_lt, -getElem?_pos, -List.getD_eq_getElem?_getD]
                        exact fin
                      · simp -implicitDefEqProofs -dsimp +contextual [-Bool.exists_bool, -Int.not_le, -Int.not_lt, -getElem?_pos, -List.getD_eq_getElem?_getD]
                        exact fin
                      · have hc := hc rfl rfl
                        try simp [-Bool.exists_bool, -Int.not_le, -Int.not_lt, -getElem?_pos, -List.getD_eq_getElem?_getD] at hc
                        subst hc
                        simp -implicitDefEqProofs -dsimp +contextual [-Bool.exists_bool, -Int.not_le, -Int.not_lt, -getElem?_pos, -List.getD_eq_getElem?_getD]
                        exact fin
                  · simp only [p2, z0, decide_true, decide_false, Bool.false_or, Bool.false_and] at hi hc
                    simp -implicitDefEqProofs -dsimp +contextual [-Bool.exists_bool, -Int.not_le, -Int.not_lt, -getElem?_pos, -List.getD_eq_getElem?_getD, hcut, hn, hn2, p2, z0]
                    refine CallJ.pure hS rfl (by simp [-Bool.exists_bool, -Int.not_le, -Int.not_lt, -getElem?_pos, -List.getD_eq_getElem?_getD]) ?_
                    simp -implicitDefEqProofs -dsimp +contextual [-Bool.exists_bool, -Int.not_le, -Int.not_lt, -getElem?_pos, -List.getD_eq_getElem?_getD, hcut, hn, hn2]
                    refine CallJ.pure hE rfl (by simp [-Bool.exists_bool, -Int.not_le, -Int.not_lt, -getElem?_pos, -List.getD_eq_getElem?_getD]) ?_
                    cases z3 <;> cases e2
                    · simp -implicitDefEqProofs -dsimp +contextual [-Bool.exists_bool, -Int.not_le, -Int.not_lt, -getElem?_pos, -List.getD_eq_getElem?_getD]
                      exact fin
                    · simp -implicitDefEqProofs -dsimp +contextual [-Bool.exists_bool, -Int.not_le, -Int.not_lt, -getElem?_pos, -List.getD_eq_getElem?_getD]
                      exact fin
                    · simp -implicitDefEqProofs -dsimp +contextual [-Bool.exists_bool, -Int.not_le, -Int.not_lt, -getElem?_pos, -List.getD_eq_getElem?_getD]
                      exact fin
                    · have hc := hc rfl rfl
                      try simp [-Bool.exists_bool, -Int.not_le, -Int.not_lt, -getElem?_pos, -List.getD_eq_getElem?_getD] at hc
                      subst hc
                      simp -implicitDefEqProofs -dsimp +contextual [-Bool.exists_bool, -Int.not_le, -Int.not_lt, -getElem?_pos, -List.getD_eq_getElem?_getD]
                      exact fin
              · by_cases z1 : x1 = 0
                · cases blop
                  · simp only [p1, z1, decide_true, decide_false, Bool.false_or] at hi hc
                    simp -implicitDefEqProofs -dsimp +contextual [-Bool.exists_bool, -Int.not_le, -Int.not_lt, -getElem?_pos, -List.getD_eq_getElem?_getD, hcut, hn, hn2, p1, z1]
                    refine CallJ.pure hC2 rfl (by simp [-Bool.exists_bool, -Int.not_le, -Int.not_lt, -getElem?_pos, -List.getD_eq_getElem?_getD]) ?_
                    by_cases p2 : x2 < 0
                    · simp only [p2, decide_true, Bool.true_or, Bool.or_true] at hi hc
                      simp -implicitDefEqProofs -dsimp +contextual [-Bool.exists_bool, -Int.not_le, -Int.not_lt, -getElem?_pos, -List.getD_eq_getElem?_getD, hcut, hn, hn2, p2]
                      refine CallJ.pure hS rfl (by simp [-Bool.exists_bool, -Int.not_le, -Int.not_lt, -getElem?_pos, -List.getD_eq_getElem?_getD]) ?_
                      simp -implicitDefEqProofs -dsimp +contextual [-Bool.exists_bool, -Int.not_le, -Int.not_lt, -getElem?_pos, -List.getD_eq_getElem?_getD, hcut, hn, hn2]
                      refine CallJ.pure hE rfl (by simp [-Bool.exists_bool, -Int.not_le, -Int.not_lt, -getElem?_pos, -List.getD_eq_getElem?_getD]) ?_
                      cases z3 <;> cases e2
                      · simp -implicitDefEqProofs -dsimp +contextual [-Bool.exists_bool, -Int.not_le, -Int.not_lt, -getElem?_pos, -List.getD_eq_getElem?_getD]
                        exact fin
                      · simp -implicitDefEqProofs -dsimp +contextual [-Bool.exists_bool, -Int.not_le, -Int.not_lt, -getElem?_pos, -List.getD_eq_getElem?_getD]
                        exact fin
                      · simp -implicitDefEqProofs -dsimp +contextual [-Bool.exists_bool, -Int.not_le, -Int.not_lt, -getElem?_pos, -List.getD_eq_getElem?_getD]
                        exact fin
                      · have hc := hc rfl rfl
                        try simp [-Bool.exists_bool, -Int.not_le, -Int.not_lt, -getElem?_pos, -List.getD_eq_getElem?_getD] at hc
                        subst hc
                        simp -implicitDefEqProofs -dsimp +contextual [-Bool.exists_bool, -Int.not_le, -Int.not_lt, -getElem?_pos, -List.getD_eq_getElem?_getD]
                        exact fin
                    · by_cases z0 : x2 = 0
                      · cases bhop
                        · simp only [p2, z0, decide_true, decide_false, Bool.false_or] at hi hc
                          simp -implicitDefEqProofs -dsimp +contextual [-Bool.exists_bool, -Int.not_le, -Int.not_lt, -getElem?_pos, -List.getD_eq_getElem?_getD, hcut, hn, hn2, p2, z0]
                          refine CallJ.pure hS rfl (by simp [-Bool.exists_bool, -Int.not_le, -Int.not_lt, -getElem?_pos, -List.getD_eq_getElem?_getD]) ?_
                          simp -implicitDefEqProofs -dsimp +contextual [-Bool.exists_bool, -Int.not_le, -Int.not_lt, -getElem?_pos, -List.getD_eq_getElem?_getD, hcut, hn, hn2]
                          refine CallJ.pure hE rfl (by simp [-Bool.exists_bool, -Int.not_le, -Int.not_lt, -getElem?_pos, -List.getD_eq_getElem?_getD]) ?_
                          cases z3 <;> cases e2
                          · simp -implicitDefEqProofs -dsimp +contextual [-Bool.exists_bool, -Int.not_le, -Int.not_lt, -getElem?_pos, -List.getD_eq_getElem?_getD]
                            exact fin
                          · simp -implicitDefEqProofs -dsimp +contextual [-Bool.exists_bool, -Int.not_le, -Int.not_lt, -getElem?_pos, -List.getD_eq_getElem?_getD]
                            exact fin
                          · simp -implicitDefEqProofs -dsimp +contextual [-Bool.exists_bool, -Int.not_le, -Int.not_lt, -getElem?_pos, -List.getD_eq_getElem?_getD]
                            exact fin
                          · have hc := hc rfl rfl
                            try simp [-Bool.exists_bool, -Int.not_le, -Int.not_lt, -getElem?_pos, -List.getD_eq_getElem?_getD] at hc
                            subst hc
                            simp -implicitDefEqProofs -dsimp +contextual [-Bool.exists_bool, -Int.not_le, -Int.not_lt, -getElem?_pos, -List.getD_eq_getElem?_getD]
                            exact fin
                        · simp only [p2, z0, decide_true, decide_false, Bool.false_or] at hi hc
                          simp -implicitDefEqProofs -dsimp +contextual [-Bool.exists_bool, -Int.not_le, -Int.not_lt, -getElem?_pos, -List.getD_eq_getElem?_getD, hcut, hn, hn2, p2, z0]
                          refine CallJ.pure hS rfl (by simp [-Bool.exists_bool, -Int.not_le, -Int.not_lt, -getElem?_pos, -List.getD_eq_getElem?_getD]) ?_
                          simp -implicitDefEqProofs -dsimp +contextual [-Bool.exists_bool, -Int.not_le, -Int.not_lt, -getElem?_pos, -List.getD_eq_getElem?_getD, hcut, hn, hn2]
                          refine CallJ.pure hE rfl (by simp [-Bool.exists_bool, -Int.not_le, -Int.not_lt, -getElem?_pos, -List.getD_eq_getElem?_getD]) ?_
                          cases z3 <;> cases e2
                          · simp -implicitDefEqProofs -dsimp +contextual [-Bool.exists_bool, -Int.not_le, -Int.not_lt, -getElem?_pos, -List.getD_eq_getElem?_getD]
                            exact fin
                          · simp -implicitDefEqProofs -dsimp +contextual [-Bool.exists_bool, -Int.not_le, -Int.not_lt, -getElem?_pos, -List.getD_eq_getElem?_getD]
                            exact fin
                          · simp -implicitDefEqProofs -dsimp +contextual [-Bool.exists_bool, -Int.not_le, -Int.not_lt, -getElem?_pos, -List.getD_eq_getElem?_getD]
                            exact fin
                          · have hc := hc rfl rfl
                            try simp [-Bool.exists_bool, -Int.not_le, -Int.not_lt, -getElem?_pos, -List.getD_eq_getElem?_getD] at hc
                            subst hc
                            simp -implicitDefEqProofs -dsimp +contextual [-Bool.exists_bool, -Int.not_le, -Int.not_lt, -getElem?_pos, -List.getD_eq_getElem?_getD]
                            exact fin
                      · simp only [p2, z0, decide_true, decide_false, Bool.false_or, Bool.false_and] at hi hc
                        simp -implicitDefEqProofs -dsimp +contextual [-Bool.exists_bool, -Int.not_le, -Int.not_lt, -getElem?_pos, -List.getD_eq_getElem?_getD, hcut, hn, hn2, p2, z0]
                        refine CallJ.pure hS rfl (by simp [-Bool.exists_bool, -Int.not_le, -Int.not_lt, -getElem?_pos, -List.getD_eq_getElem?_getD]) ?_
                        simp -implicitDefEqProofs -dsimp +contextual [-Bool.exists_bool, -Int.not_le, -Int.not_lt, -getElem?_pos, -List.getD_eq_getElem?_getD, hcut, hn, hn2]
                        refine CallJ.pure hE rfl (by simp [-Bool.exists_bool, -Int.not_le, -Int.not_lt, -getElem?_pos, -List.getD_eq_getElem?_getD]) ?_
                        cases z3 <;> cases e2
                        · simp -implicitDefEqProofs -dsimp +contextual [-Bool.exists_bool, -Int.not_le, -Int.not_lt, -getElem?_pos, -List.getD_eq_getElem?_getD]
                          exact fin
                        · simp -implicitDefEqProofs -dsimp +contextual [-Bool.exists_bool, -Int.not_le, -Int.not_lt, -getElem?_pos, -List.getD_eq_getElem?_getD]
                          exact fin
                        · simp -implicitDefEqProofs -dsimp +contextual [-Bool.exists_bool, -Int.not_le, -Int.not_lt, -getElem?_pos, -List.getD_eq_getElem?_getD]
                          exact fin
                        · have hc := hc rfl rfl
                          try simp [-Bool.exists_bool, -Int.not_le, -Int.not_lt, -getElem?_pos, -List.getD_eq_getElem?_getD] at hc
                          subst hc
                          simp -implicitDefEqProofs -dsimp +contextual [-Bool.exists_bool, -Int.not_le, -Int.not_lt, -getElem?_pos, -List.getD_eq_getElem?_getD]
                          exact fin
                  · simp only [p1, z1, decide_true, decide_false, Bool.false_or] at hi hc
                    simp -implicitDefEqProofs -dsimp +contextual [-Bool.exists_bool, -Int.not_le, -Int.not_lt, -getElem?_pos, -List.getD_eq_getElem?_getD, hcut, hn, hn2, p1, z1]
                    refine CallJ.pure hC2 rfl (by simp [-Bool.exists_bool, -Int.not_le, -Int.not_lt, -getElem?_pos, -List.getD_eq_getElem?_getD]) ?_
                    simp -implicitDefEqProofs -dsimp +contextual [-Bool.exists_bool, -Int.not_le, -Int.not_lt, -getElem?_pos, -List.getD_eq_getElem?_getD, hcut, hn, hn2]
                    refine CallJ.pure hS rfl (by simp [-Bool.exists_bool, -Int.not_le, -Int.not_lt, -getElem?_pos, -List.getD_eq_getElem?_getD]) ?_
                    simp -implicitDefEqProofs -dsimp +contextual [-Bool.exists_bool, -Int.not_le, -Int.not_lt, -getElem?_pos, -List.getD_eq_getElem?_getD, hcut, hn, hn2]
                    refine CallJ.pure hE rfl (by simp [-Bool.exists_bool, -Int.not_le, -Int.not_lt, -getElem?_pos, -List.getD_eq_getElem?_getD]) ?_
                    cases z3 <;> cases e2
                    · simp -implicitDefEqProofs -dsimp +contextual [-Bool.exists_bool, -Int.not_le, -Int.not_lt, -getElem?_pos, -List.getD_eq_getElem?_getD]
                      exact fin
                    · simp -implicitDefEqProofs -dsimp +contextual [-Bool.exists_bool, -Int.not_le, -Int.not_lt, -getElem?_pos, -List.getD_eq_getElem?_getD]
                      exact fin
                    · simp -implicitDefEqProofs -dsimp +contextual [-Bool.exists_bool, -Int.not_le, -Int.not_lt, -getElem?_pos, -List.getD_eq_getElem?_getD]
                      exact fin
                    · have hc := hc rfl rfl
                      try simp [-Bool.exists_bool, -Int.not_le, -Int.not_lt, -getElem?_pos, -List.getD_eq_getElem?_getD] at hc
                      subst hc
                      simp -implicitDefEqProofs -dsimp +contextual [-Bool.exists_bool, -Int.not_le, -Int.not_lt, -getElem?_pos, -List.getD_eq_getElem?_getD]
                      exact fin
                · simp only [p1, z1, decide_true, decide_false, Bool.false_or, Bool.false_and] at hi hc
                  simp -implicitDefEqProofs -dsimp +contextual [-Bool.exists_bool, -Int.not_le, -Int.not_lt, -getElem?_pos, -List.getD_eq_getElem?_getD, hcut, hn, hn2, p1, z1]
                  refine CallJ.pure hC2 rfl (by simp [-Bool.exists_bool, -Int.not_le, -Int.not_lt, -getElem?_pos, -List.getD_eq_getElem?_getD]) ?_
                  simp -implicitDefEqProofs -dsimp +contextual [-Bool.exists_bool, -Int.not_le, -Int.not_lt, -getElem?_pos, -List.getD_eq_getElem?_getD, hcut, hn, hn2]
                  refine CallJ.pure hS rfl (by simp [-Bool.exists_bool, -Int.not_le, -Int.not_lt, -getElem?_pos, -List.getD_eq_getElem?_getD]) ?_
                  simp -implicitDefEqProofs -dsimp +contextual [-Bool.exists_bool, -Int.not_le, -Int.not_lt, -getElem?_pos, -List.getD_eq_getElem?_getD, hcut, hn, hn2]
                  refine CallJ.pure hE rfl (by simp [-Bool.exists_bool, -Int.not_le, -Int.not_lt, -getElem?_pos, -List.getD_eq_getElem?_getD]) ?_
                  cases z3 <;> cases e2
                  · simp -implicitDefEqProofs -dsimp +contextual [-Bool.exists_bool, -Int.not_le, -Int.not_lt, -getElem?_pos, -List.getD_eq_getElem?_getD]
                    exact fin
                  · simp -implicitDefEqProofs -dsimp +contextual [-Bool.exists_bool, -Int.not_le, -Int.not_lt, -getElem?_pos, -List.getD_eq_getElem?_getD]
                    exact fin
                  · simp -implicitDefEqProofs -dsimp +contextual [-Bool.exists_bool, -Int.not_le, -Int.not_lt, -getElem?_pos, -List.getD_eq_getElem?_getD]
                    exact fin
                  · have hc := hc rfl rfl
                    try simp [-Bool.exists_bool, -Int.not_le, -Int.not_lt, -getElem?_pos, -List.getD_eq_getElem?_getD] at hc
                    subst hc
                    simp -implicitDefEqProofs -dsimp +contextual [-Bool.exists_bool, -Int.not_le, -Int.not_lt, -getElem?_pos, -List.getD_eq_getElem?_getD]
                    exact fin
        · cases bhl
          · cases bhh
            · simp -implicitDefEqProofs -dsimp +contextual [-Bool.exists_bool, -Int.not_le, -Int.not_lt, -getElem?_pos, -List.getD_eq_getElem?_getD, hcut, hn, hn2]
              refine CallJ.pure hS rfl (by simp [-Bool.exists_bool, -Int.not_le, -Int.not_lt, -getElem?_pos, -List.getD_eq_getElem?_getD]) ?_
              simp -implicitDefEqProofs -dsimp +contextual [-Bool.exists_bool, -Int.not_le, -Int.not_lt, -getElem?_pos, -List.getD_eq_getElem?_getD, hcut, hn, hn2]
              refine CallJ.pure hE rfl (by simp [-Bool.exists_bool, -Int.not_le, -Int.not_lt, -getElem?_pos, -List.getD_eq_getElem?_getD]) ?_
              cases z3 <;> cases e2
              · simp -implicitDefEqProofs -dsimp +contextual [-Bool.exists_bool, -Int.not_le, -Int.not_lt, -getElem?_pos, -List.getD_eq_getElem?_getD]
                exact fin
              · simp -implicitDefEqProofs -dsimp +contextual [-Bool.exists_bool, -Int.not_le, -Int.not_lt, -getElem?_pos, -List.getD_eq_getElem?_getD]
                exact fin
              · simp -implicitDefEqProofs -dsimp +contextual [-Bool.exists_bool, -Int.not_le, -Int.not_lt, -getElem?_pos, -List.getD_eq_getElem?_getD]
                exact fin
              · have hc := hc rfl rfl
                try simp [-Bool.exists_bool, -Int.not_le, -Int.not_lt, -getElem?_pos, -List.getD_eq_getElem?_getD] at hc
                subst hc
                simp -implicitDefEqProofs -dsimp +contextual [-Bool.exists_bool, -Int.not_le, -Int.not_lt, -getElem?_pos, -List.getD_eq_getElem?_getD]
                exact fin
            · simp -implicitDefEqProofs -dsimp +contextual [-Bool.exists_bool, -Int.not_le, -Int.not_lt, -getElem?_pos, -List.getD_eq_getElem?_getD, hcut, hn, hn2]
              refine CallJ.pure hC2 rfl (by simp [-Bool.exists_bool, -Int.not_le, -Int.not_lt, -getElem?_pos, -List.getD_eq_getElem?_getD]) ?_
              simp -implicitDefEqProofs -dsimp +contextual [-Bool.exists_bool, -Int.not_le, -Int.not_lt, -getElem?_pos, -List.getD_eq_getElem?_getD, hcut, hn, hn2]
              refine CallJ.pure hS rfl (by simp [-Bool.exists_bool, -Int.not_le, -Int.not_lt, -getElem?_pos, -List.getD_eq_getElem?_getD]) ?_
              simp -implicitDefEqProofs -dsimp +contextual [-Bool.exists_bool, -Int.not_le, -Int.not_lt, -getElem?_pos, -List.getD_eq_getElem?_getD, hcut, hn, hn2]
              refine CallJ.pure hE rfl (by simp [-Bool.exists_bool, -Int.not_le, -Int.not_lt, -getElem?_pos, -List.getD_eq_getElem?_getD]) ?_
              cases z3 <;> cases e2
              · simp -implicitDefEqProofs -dsimp +contextual [-Bool.exists_bool, -Int.not_le, -Int.not_lt, -getElem?_pos, -List.getD_eq_getElem?_getD]
                exact fin
              · simp -implicitDefEqProofs -dsimp +contextual [-Bool.exists_bool, -Int.not_le, -Int.not_lt, -getElem?_pos, -List.getD_eq_getElem?_getD]
                exact fin
              · simp -implicitDefEqProofs -dsimp +contextual [-Bool.exists_bool, -Int.not_le, -Int.not_lt, -getElem?_pos, -List.getD_eq_getElem?_getD]
                exact fin
              · have hc := hc rfl rfl
                try simp [-Bool.exists_bool, -Int.not_le, -Int.not_lt, -getElem?_pos, -List.getD_eq_getElem?_getD] at hc
                subst hc
                simp -implicitDefEqProofs -dsimp +contextual [-Bool.exists_bool, -Int.not_le, -Int.not_lt, -getElem?_pos, -List.getD_eq_getElem?_getD]
                exact fin
          · cases bhh
            · simp -implicitDefEqProofs -dsimp +contextual [-Bool.exists_bool, -Int.not_le, -Int.not_lt, -getElem?_pos, -List.getD_eq_getElem?_getD, hcut, hn, hn2]
              refine CallJ.pure hC1 rfl (by simp [-Bool.exists_bool, -Int.not_le, -Int.not_lt, -getElem?_pos, -List.getD_eq_getElem?_getD]) ?_
              simp -implicitDefEqProofs -dsimp +contextual [-Bool.exists_bool, -Int.not_le, -Int.not_lt, -getElem?_pos, -List.getD_eq_getElem?_getD, hcut, hn, hn2]
              refine CallJ.pure hS rfl (by simp [-Bool.exists_bool, -Int.not_le, -Int.not_lt, -getElem?_pos, -List.getD_eq_getElem?_getD]) ?_
              simp -implicitDefEqProofs -dsimp +contextual [-Bool.exists_bool, -Int.not_le, -Int.not_lt, -getElem?_pos, -List.getD_eq_getElem?_getD, hcut, hn, hn2]
              refine CallJ.pure hE rfl (by simp [-Bool.exists_bool, -Int.not_le, -Int.not_lt, -getElem?_pos, -List.getD_eq_getElem?_getD]) ?_
              cases z3 <;> cases e2
              · simp -implicitDefEqProofs -dsimp +contextual [-Bool.exists_bool, -Int.not_le, -Int.not_lt, -getElem?_pos, -List.getD_eq_getElem?_getD]
                exact fin
              · simp -implicitDefEqProofs -dsimp +contextual [-Bool.exists_bool, -Int.not_le, -Int.not_lt, -getElem?_pos, -List.getD_eq_getElem?_getD]
                exact fin
              · simp -implicitDefEqProofs -dsimp +contextual [-Bool.exists_bool, -Int.not_le, -Int.not_lt, -getElem?_pos, -List.getD_eq_getElem?_getD]
                exact fin
              · have hc := hc rfl rfl
                try simp [-Bool.exists_bool, -Int.not_le, -Int.not_lt, -getElem?_pos, -List.getD_eq_getElem?_getD] at hc
                subst hc
                simp -implicitDefEqProofs -dsimp +contextual [-Bool.exists_bool, -Int.not_le, -Int.not_lt, -getElem?_pos, -List.getD_eq_getElem?_getD]
                exact fin
            · simp -implicitDefEqProofs -dsimp +contextual [-Bool.exists_bool, -Int.not_le, -Int.not_lt, -getElem?_pos, -List.getD_eq_getElem?_getD, hcut, hn, hn2]
              refine CallJ.pure hC1 rfl (by simp [-Bool.exists_bool, -Int.not_le, -Int.not_lt, -getElem?_pos, -List.getD_eq_getElem?_getD]) ?_
              simp -implicitDefEqProofs -dsimp +contextual [-Bool.exists_bool, -Int.not_le, -Int.not_lt, -getElem?_pos, -List.getD_eq_getElem?_getD, hcut, hn, hn2]
              refine CallJ.pure hC2 rfl (by simp [-Bool.exists_bool, -Int.not_le, -Int.not_lt, -getElem?_pos, -List.getD_eq_getElem?_getD]) ?_
              simp -implicitDefEqProofs -dsimp +contextual [-Bool.exists_bool, -Int.not_le, -Int.not_lt, -getElem?_pos, -List.getD_eq_getElem?_getD, hcut, hn, hn2]
              refine CallJ.pure hS rfl (by simp [-Bool.exists_bool, -Int.not_le, -Int.not_lt, -getElem?_pos, -List.getD_eq_getElem?_getD]) ?_
              simp -implicitDefEqProofs -dsimp +contextual [-Bool.exists_bool, -Int.not_le, -Int.not_lt, -getElem?_pos, -List.getD_eq_getElem?_getD, hcut, hn, hn2]
              refine CallJ.pure hE rfl (by simp [-Bool.exists_bool, -Int.not_le, -Int.not_lt, -getElem?_pos, -List.getD_eq_getElem?_getD]) ?_
              cases z3 <;> cases e2
              · simp -implicitDefEqProofs -dsimp +contextual [-Bool.exists_bool, -Int.not_le, -Int.not_lt, -getElem?_pos, -List.getD_eq_getElem?_getD]
                exact fin
              · simp -implicitDefEqProofs -dsimp +contextual [-Bool.exists_bool, -Int.not_le, -Int.not_lt, -getElem?_pos, -List.getD_eq_getElem?_getD]
                exact fin
              · simp -implicitDefEqProofs -dsimp +contextual [-Bool.exists_bool, -Int.not_le, -Int.not_lt, -getElem?_pos, -List.getD_eq_getElem?_getD]
                exact fin
              · have hc := hc rfl rfl
                try simp [-Bool.exists_bool, -Int.not_le, -Int.not_lt, -getElem?_pos, -List.getD_eq_getElem?_getD] at hc
                subst hc
                simp -implicitDefEqProofs -dsimp +contextual [-Bool.exists_bool, -Int.not_le, -Int.not_lt, -getElem?_pos, -List.getD_eq_getElem?_getD]
                exact fin
      · cases bem
        · cases bhl
          · cases bhh
            · simp only [Bool.not_false, Bool.not_true, Bool.true_and, Bool.false_and, Bool.true_or, Bool.false_or, Bool.and_true] at hi hc
              simp -implicitDefEqProofs -dsimp +contextual [-Bool.exists_bool, -Int.not_le, -Int.not_lt, -getElem?_pos, -List.getD_eq_getElem?_getD, hcut, hn, hn2]
              refine CallJ.pure hS rfl (by simp [-Bool.exists_bool, -Int.not_le, -Int.not_lt, -getElem?_pos, -List.getD_eq_getElem?_getD]) ?_
              simp -implicitDefEqProofs -dsimp +contextual [-Bool.exists_bool, -Int.not_le, -Int.not_lt, -getElem?_pos, -List.getD_eq_getElem?_getD, hcut, hn, hn2]
              refine CallJ.pure hE rfl (by simp [-Bool.exists_bool, -Int.not_le, -Int.not_lt, -getElem?_pos, -List.getD_eq_getElem?_getD]) ?_
              cases z3 <;> cases e2
              · simp -implicitDefEqProofs -dsimp +contextual [-Bool.exists_bool, -Int.not_le, -Int.not_lt, -getElem?_pos, -List.getD_eq_getElem?_getD]
                exact fin
              · simp -implicitDefEqProofs -dsimp +contextual [-Bool.exists_bool, -Int.not_le, -Int.not_lt, -getElem?_pos, -List.getD_eq_getElem?_getD]
                exact fin
              · simp -implicitDefEqProofs -dsimp +contextual [-Bool.exists_bool, -Int.not_le, -Int.not_lt, -getElem?_pos, -List.getD_eq_getElem?_getD]
                exact fin
              · have hc := hc rfl rfl
                try simp [-Bool.exists_bool, -Int.not_le, -Int.not_lt, -getElem?_pos, -List.getD_eq_getElem?_getD] at hc
                subst hc
                simp -implicitDefEqProofs -dsimp +contextual [-Bool.exists_bool, -Int.not_le, -Int.not_lt, -getElem?_pos, -List.getD_eq_getElem?_getD]
                exact fin
            · simp only [Bool.not_false, Bool.not_true, Bool.true_and, Bool.false_and, Bool.true_or, Bool.false_or, Bool.and_true] at hi hc
              simp -implicitDefEqProofs -dsimp +contextual [-Bool.exists_bool, -Int.not_le, -Int.not_lt, -getElem?_pos, -List.getD_eq_getElem?_getD, hcut, hn, hn2]
              refine CallJ.pure hC2 rfl (by simp [-Bool.exists_bool, -Int.not_le, -Int.not_lt, -getElem?_pos, -List.getD_eq_getElem?_getD]) ?_
              by_cases p2 : x2 < 0
              · simp only [p2, decide_true, Bool.true_or, Bool.or_true] at hi hc
                simp -implicitDefEqProofs -dsimp +contextual [-Bool.exists_bool, -Int.not_le, -Int.not_lt, -getElem?_pos, -List.getD_eq_getElem?_getD, hcut, hn, hn2, p2]
                refine CallJ.pure hS rfl (by simp [-Bool.exists_bool, -Int.not_le, -Int.not_lt, -getElem?_pos, -List.getD_eq_getElem?_getD]) ?_
                simp -implicitDefEqProofs -dsimp +contextual [-Bool.exists_bool, -Int.not_le, -Int.not_lt, -getElem?_pos, -List.getD_eq_getElem?_getD, hcut, hn, hn2]
                refine CallJ.pure hE rfl (by simp [-Bool.exists_bool, -Int.not_le, -Int.not_lt, -getElem?_pos, -List.getD_eq_getElem?_getD]) ?_
                cases z3 <;> cases e2
                · simp -implicitDefEqProofs -dsimp +contextual [-Bool.exists_bool, -Int.not_le, -Int.not_lt, -getElem?_pos, -List.getD_eq_getElem?_getD]
                  exact fin
                · simp -implicitDefEqProofs -dsimp +contextual [-Bool.exists_bool, -Int.not_le, -Int.not_lt, -getElem?_pos, -List.getD_eq_getElem?_getD]
                  exact fin
                · simp -implicitDefEqProofs -dsimp +contextual [-Bool.exists_bool, -Int.not_le, -Int.not_lt, -getElem?_pos, -List.getD_eq_getElem?_getD]
                  exact fin
                · have hc := hc rfl rfl
                  try simp [-Bool.exists_bool, -Int.not_le, -Int.not_lt, -getElem?_pos, -List.getD_eq_getElem?_getD] at hc
                  subst hc
                  simp -implicitDefEqProofs -dsimp +contextual [-Bool.exists_bool, -Int.not_le, -Int.not_lt, -getElem?_pos, -List.getD_eq_getElem?_getD]
                  exact fin
              · by_cases z0 : x2 = 0
                · cases bhop
                  · simp only [p2, z0, decide_true, decide_false, Bool.false_or] at hi hc
                    simp -implicitDefEqProofs -dsimp +contextual [-Bool.exists_bool, -Int.not_le, -Int.not_lt, -getElem?_pos, -List.getD_eq_getElem?_getD, hcut, hn, hn2, p2, z0]
                    refine CallJ.pure hS rfl (by simp [-Bool.exists_bool, -Int.not_le, -Int.not_lt, -getElem?_pos, -List.getD_eq_getElem?_getD]) ?_
                    simp -implicitDefEqProofs -dsimp +contextual [-Bool.exists_bool, -Int.not_le, -Int.not_lt, -getElem?_pos, -List.getD_eq_getElem?_getD, hcut, hn, hn2]
                    refine CallJ.pure hE rfl (by simp [-Bool.exists_bool, -Int.not_le, -Int.not_lt, -getElem?_pos, -List.getD_eq_getElem?_getD]) ?_
                    cases z3 <;> cases e2
                    · simp -implicitDefEqProofs -dsimp +contextual [-Bool.exists_bool, -Int.not_le, -Int.not_lt, -getElem?_pos, -List.getD_eq_getElem?_getD]
                      exact fin
                    · simp -implicitDefEqProofs -dsimp +contextual [-Bool.exists_bool, -Int.not_le, -Int.not_lt, -getElem?_pos, -List.getD_eq_getElem?_getD]
                      exact fin
                    · simp -implicitDefEqProofs -dsimp +contextual [-Bool.exists_bool, -Int.not_le, -Int.not_lt, -getElem?_pos, -List.getD_eq_getElem?_getD]
                      exact fin
                    · have hc := hc rfl rfl
                      try simp [-Bool.exists_bool, -Int.not_le, -Int.not_lt, -getElem?_pos, -List.getD_eq_getElem?_getD] at hc
                      subst hc
                      simp -implicitDefEqProofs -dsimp +contextual [-Bool.exists_bool, -Int.not_le, -Int.not_lt, -getElem?_pos, -List.getD_eq_getElem?_getD]
                      exact fin
                  · simp only [p2, z0, decide_true, decide_false, Bool.false_or] at hi hc
                    exact absurd (hi (by first | rfl | trivial) (by first | rfl | trivial)) (by simp [-Bool.exists_bool, -Int.not_le, -Int.not_lt, -getElem?_pos, -List.getD_eq_getElem?_getD])
                · simp only [p2, z0, decide_true, decide_false, Bool.false_or, Bool.false_and] at hi hc
                  exact absurd (hi (by first | rfl | trivial) (by first | rfl | trivial)) (by simp [-Bool.exists_bool, -Int.not_le, -Int.not_lt, -getElem?_pos, -List.getD_eq_getElem?_getD])
          · cases bhh
            · simp only [Bool.not_false, Bool.not_true, Bool.true_and, Bool.false_and, Bool.true_or, Bool.false_or, Bool.and_true] at hi hc
              simp -implicitDefEqProofs -dsimp +contextual [-Bool.exists_bool, -Int.not_le, -Int.not_lt, -getElem?_pos, -List.getD_eq_getElem?_getD, hcut, hn, hn2]
              refine CallJ.pure hC1 rfl (by simp [-Bool.exists_bool, -Int.not_le, -Int.not_lt, -getElem?_pos, -List.getD_eq_getElem?_getD]) ?_
              by_cases p1 : 0 < x1
              · simp only [p1, decide_true, Bool.true_or, Bool.or_true] at hi hc
                simp -implicitDefEqProofs -dsimp +contextual [-Bool.exists_bool, -Int.not_le, -Int.not_lt, -getElem?_pos, -List.getD_eq_getElem?_getD, hcut, hn, hn2, p1]
                refine CallJ.pure hS rfl (by simp [-Bool.exists_bool, -Int.not_le, -Int.not_lt, -getElem?_pos, -List.getD_eq_getElem?_getD]) ?_
                simp -implicitDefEqProofs -dsimp +contextual [-Bool.exists_bool, -Int.not_le, -Int.not_lt, -getElem?_pos, -List.getD_eq_getElem?_getD, hcut, hn, hn2]
                refine CallJ.pure hE rfl (by simp [-Bool.exists_bool, -Int.not_le, -Int.not_lt, -getElem?_pos, -List.getD_eq_getElem?_getD]) ?_
                cases z3 <;> cases e2
                · simp -implicitDefEqProofs -dsimp +contextual [-Bool.exists_bool, -Int.not_le, -Int.not_lt, -getElem?_pos, -List.getD_eq_getElem?_getD]
                  exact fin
                · simp -implicitDefEqProofs -dsimp +contextual [-Bool.exists_bool, -Int.not_le, -Int.not_lt, -getElem?_pos, -List.getD_eq_getElem?_getD]
                  exact fin
                · simp -implicitDefEqProofs -dsimp +contextual [-Bool.exists_bool, -Int.not_le, -Int.not_lt, -getElem?_pos, -List.getD_eq_getElem?_getD]
                  exact fin
                · have hc := hc rfl rfl
                  try simp [-Bool.exists_bool, -Int.not_le, -Int.not_lt, -getElem?_pos, -List.getD_eq_getElem?_getD] at hc
                  subst hc
                  simp -implicitDefEqProofs -dsimp +contextual [-Bool.exists_bool, -Int.not_le, -Int.not_lt, -getElem?_pos, -List.getD_eq_getElem?_getD]
                  exact fin
              · by_cases z1 : x1 = 0
                · cases blop
                  · simp only [p1, z1, decide_true, decide_false, Bool.false_or] at hi hc
                    simp -implicitDefEqProofs -dsimp +contextual [-Bool.exists_bool, -Int.not_le, -Int.not_lt, -getElem?_pos, -List.getD_eq_getElem?_getD, hcut, hn, hn2, p1, z1]
                    refine CallJ.pure hS rfl (by simp [-Bool.exists_bool, -Int.not_le, -Int.not_lt, -getElem?_pos, -List.getD_eq_getElem?_getD]) ?_
                    simp -implicitDefEqProofs -dsimp +contextual [-Bool.exists_bool, -Int.not_le, -Int.not_lt, -getElem?_pos, -List.getD_eq_getElem?_getD, hcut, hn, hn2]
                    refine CallJ.pure hE rfl (by simp [-Bool.exists_bool, -Int.not_le, -Int.not_lt, -getElem?_pos, -List.getD_eq_getElem?_getD]) ?_
                    cases z3 <;> cases e2
                    · simp -implicitDefEqProofs -dsimp +contextual [-Bool.exists_bool, -Int.not_le, -Int.not_lt, -getElem?_pos, -List.getD_eq_getElem?_getD]
                      exact fin
                    · simp -implicitDefEqProofs -dsimp +contextual [-Bool.exists_bool, -Int.not_le, -Int.not_lt, -getElem?_pos, -List.getD_eq_getElem?_getD]
                      exact fin
                    · simp -implicitDefEqProofs -dsimp +contextual [-Bool.exists_bool, -Int.not_le, -Int.not_lt, -getElem?_pos, -List.getD_eq_getElem?_getD]
                      exact fin
                    · have hc := hc rfl rfl
                      try simp [-Bool.exists_bool, -Int.not_le, -Int.not_lt, -getElem?_pos, -List.getD_eq_getElem?_getD] at hc
                      subst hc
                      simp -implicitDefEqProofs -dsimp +contextual [-Bool.exists_bool, -Int.not_le, -Int.not_lt, -getElem?_pos, -List.getD_eq_getElem?_getD]
                      exact fin
                  · simp only [p1, z1, decide_true, decide_false, Bool.false_or] at hi hc
                    exact absurd (hi (by first | rfl | trivial) (by first | rfl | trivial)) (by simp [-Bool.exists_bool, -Int.not_le, -Int.not_lt, -getElem?_pos, -List.getD_eq_getElem?_getD])
                · simp only [p1, z1, decide_true, decide_false, Bool.false_or, Bool.false_and] at hi hc
                  exact absurd (hi (by first | rfl | trivial) (by first | rfl | trivial)) (by simp [-Bool.exists_bool, -Int.not_le, -Int.not_lt, -getElem?_pos, -List.getD_eq_getElem?_getD])
            · simp only [Bool.not_false, Bool.not_true, Bool.true_and, Bool.false_and, Bool.true_or, Bool.false_or, Bool.and_true] at hi hc
              simp -implicitDefEqProofs -dsimp +contextual [-Bool.exists_bool, -Int.not_le, -Int.not_lt, -getElem?_pos, -List.getD_eq_getElem?_getD, hcut, hn, hn2]
              refine CallJ.pure hC1 rfl (by simp [-Bool.exists_bool, -Int.not_le, -Int.not_lt, -getElem?_pos, -List.getD_eq_getElem?_getD]) ?_
              by_cases p1 : 0 < x1
              · simp only [p1, decide_true, Bool.true_or, Bool.or_true] at hi hc
                simp -implicitDefEqProofs -dsimp +contextual [-Bool.exists_bool, -Int.not_le, -Int.not_lt, -getElem?_pos, -List.getD_eq_getElem?_getD, hcut, hn, hn2, p1]
                refine CallJ.pure hC2 rfl (by simp [-Bool.exists_bool, -Int.not_le, -Int.not_lt, -getElem?_pos, -List.getD_eq_getElem?_getD]) ?_
                by_cases p2 : x2 < 0
                · simp only [p2, decide_true, Bool.true_or, Bool.or_true] at hi hc
                  simp -implicitDefEqProofs -dsimp +contextual [-Bool.exists_bool, -Int.not_le, -Int.not_lt, -getElem?_pos, -List.getD_eq_getElem?_getD, hcut, hn, hn2, p2]
                  refine CallJ.pure hS rfl (by simp [-Bool.exists_bool, -Int.not_le, -Int.not_lt, -getElem?_pos, -List.getD_eq_getElem?_getD]) ?_
                  simp -implicitDefEqProofs -dsimp +contextual [-Bool.exists_bool, -Int.not_le, -Int.not_lt, -getElem?_pos, -List.getD_eq_getElem?_getD, hcut, hn, hn2]
                  refine CallJ.pure hE rfl (by simp [-Bool.exists_bool, -Int.not_le, -Int.not_lt, -getElem?_pos, -List.getD_eq_getElem?_getD]) ?_
                  cases z3 <;> cases e2
                  · simp -implicitDefEqProofs -dsimp +contextual [-Bool.exists_bool, -Int.not_le, -Int.not_lt, -getElem?_pos, -List.getD_eq_getElem?_getD]
                    exact fin
                  · simp -implicitDefEqProofs -dsimp +contextual [-Bool.exists_bool, -Int.not_le, -Int.not_lt, -getElem?_pos, -List.getD_eq_getElem?_getD]
                    exact fin
                  · simp -implicitDefEqProofs -dsimp +contextual [-Bool.exists_bool, -Int.not_le, -Int.not_lt, -getElem?_pos, -List.getD_eq_getElem?_getD]
                    exact fin
                  · have hc := hc rfl rfl
                    try simp [-Bool.exists_bool, -Int.not_le, -Int.not_lt, -getElem?_pos, -List.getD_eq_getElem?_getD] at hc
                    subst hc
                    simp -implicitDefEqProofs -dsimp +contextual [-Bool.exists_bool, -Int.not_le, -Int.not_lt, -getElem?_pos, -List.getD_eq_getElem?_getD]
                    exact fin
                · by_cases z0 : x2 = 0
                  · cases bhop
                    · simp only [p2, z0, decide_true, decide_false, Bool.false_or] at hi hc
                      simp -implicitDefEqProofs -dsimp +contextual [-Bool.exists_bool, -Int.not_le, -Int.not_lt, -getElem?_pos, -List.getD_eq_getElem?_getD, hcut, hn, hn2, p2, z0]
                      refine CallJ.pure hS rfl (by simp [-Bool.exists_bool, -Int.not_le, -Int.not_lt, -getElem?_pos, -List.getD_eq_getElem?_getD]) ?_
                      simp -implicitDefEqProofs -dsimp +contextual [-Bool.exists_bool, -Int.not_le, -Int.not_lt, -getElem?_pos, -List.getD_eq_getElem?_getD, hcut, hn, hn2]
                      refine CallJ.pure hE rfl (by simp [-Bool.exists_bool, -Int.not_le, -Int.not_lt, -getElem?_pos, -List.getD_eq_getElem?_getD]) ?_
                      cases z3 <;> cases e2
                      · simp -implicitDefEqProofs -dsimp +contextual [-Bool.exists_bool, -Int.not_le, -Int.not_lt, -getElem?_pos, -List.getD_eq_getElem?_getD]
                        exact fin
                      · simp -implicitDefEqProofs -dsimp +contextual [-Bool.exists_bool, -Int.not_le, -Int.not_lt, -getElem?_pos, -List.getD_eq_getElem?_getD]
                        exact fin
                      · simp -implicitDefEqProofs -dsimp +contextual [-Bool.exists_bool, -Int.not_le, -Int.not_lt, -getElem?_pos, -List.getD_eq_getElem?_getD]
                        exact fin
                      · have hc := hc rfl rfl
                        try simp [-Bool.exists_bool, -Int.not_le, -Int.not_lt, -getElem?_pos, -List.getD_eq_getElem?_getD] at hc
                        subst hc
                        simp -implicitDefEqProofs -dsimp +contextual [-Bool.exists_bool, -Int.not_le, -Int.not_lt, -getElem?_pos, -List.getD_eq_getElem?_getD]
                        exact fin
                    · simp only [p2, z0, decide_true, decide_false, Bool.false_or] at hi hc
                      exact absurd (hi (by first | rfl | trivial) (by first | rfl | trivial)) (by simp [-Bool.exists_bool, -Int.not_le, -Int.not_lt, -getElem?_pos, -List.getD_eq_getElem?_getD])
                  · simp only [p2, z0, decide_true, decide_false, Bool.false_or, Bool.false_and] at hi hc
                    exact absurd (hi (by first | rfl | trivial) (by first | rfl | trivial)) (by simp [-Bool.exists_bool, -Int.not_le, -Int.not_lt, -getElem?_pos, -List.getD_eq_getElem?_getD])
              · by_cases z1 : x1 = 0
                · cases blop
                  · simp only [p1, z1, decide_true, decide_false, Bool.false_or] at hi hc
                    simp -implicitDefEqProofs -dsimp +contextual [-Bool.exists_bool, -Int.not_le, -Int.not_lt, -getElem?_pos, -List.getD_eq_getElem?_getD, hcut, hn, hn2, p1, z1]
                    refine CallJ.pure hC2 rfl (by simp [-Bool.exists_bool, -Int.not_le, -Int.not_lt, -getElem?_pos, -List.getD_eq_getElem?_getD]) ?_
                    by_cases p2 : x2 < 0
                    · simp only [p2, decide_true, Bool.true_or, Bool.or_true] at hi hc
                      simp -implicitDefEqProofs -dsimp +contextual [-Bool.exists_bool, -Int.not_le, -Int.not_lt, -getElem?_pos, -List.getD_eq_getElem?_getD, hcut, hn, hn2, p2]
                      refine CallJ.pure hS rfl (by simp [-Bool.exists_bool, -Int.not_le, -Int.not_lt, -getElem?_pos, -List.getD_eq_getElem?_getD]) ?_
                      simp -implicitDefEqProofs -dsimp +contextual [-Bool.exists_bool, -Int.not_le, -Int.not_lt, -getElem?_pos, -List.getD_eq_getElem?_getD, hcut, hn, hn2]
                      refine CallJ.pure hE rfl (by simp [-Bool.exists_bool, -Int.not_le, -Int.not_lt, -getElem?_pos, -List.getD_eq_getElem?_getD]) ?_
                      cases z3 <;> cases e2
                      · simp -implicitDefEqProofs -dsimp +contextual [-Bool.exists_bool, -Int.not_le, -Int.not_lt, -getElem?_pos, -List.getD_eq_getElem?_getD]
                        exact fin
                      · simp -implicitDefEqProofs -dsimp +contextual [-Bool.exists_bool, -Int.not_le, -Int.not_lt, -getElem?_pos, -List.getD_eq_getElem?_getD]
                        exact fin
                      · simp -implicitDefEqProofs -dsimp +contextual [-Bool.exists_bool, -Int.not_le, -Int.not_lt, -getElem?_pos, -List.getD_eq_getElem?_getD]
                        exact fin
                      · have hc := hc rfl rfl
                        try simp [-Bool.exists_bool, -Int.not_le, -Int.not_lt, -getElem?_pos, -List.getD_eq_getElem?_getD] at hc
                        subst hc
                        simp -implicitDefEqProofs -dsimp +contextual [-Bool.exists_bool, -Int.not_le, -Int.not_lt, -getElem?_pos, -List.getD_eq_getElem?_getD]
                        exact fin
                    · by_cases z0 : x2 = 0
                      · cases bhop
                        · simp only [p2, z0, decide_true, decide_false, Bool.false_or] at hi hc
                          simp -implicitDefEqProofs -dsimp +contextual [-Bool.exists_bool, -Int.not_le, -Int.not_lt, -getElem?_pos, -List.getD_eq_getElem?_getD, hcut, hn, hn2, p2, z0]
                          refine CallJ.pure hS rfl (by simp [-Bool.exists_bool, -Int.not_le, -Int.not_lt, -getElem?_pos, -List.getD_eq_getElem?_getD]) ?_
                          simp -implicitDefEqProofs -dsimp +contextual [-Bool.exists_bool, -Int.not_le, -Int.not_lt, -getElem?_pos, -List.getD_eq_getElem?_getD, hcut, hn, hn2]
                          refine CallJ.pure hE rfl (by simp [-Bool.exists_bool, -Int.not_le, -Int.not_lt, -getElem?_pos, -List.getD_eq_getElem?_getD]) ?_
                          cases z3 <;> cases e2
                          · simp -implicitDefEqProofs -dsimp +contextual [-Bool.exists_bool, -Int.not_le, -Int.not_lt, -getElem?_pos, -List.getD_eq_getElem?_getD]
                            exact fin
                          · simp -implicitDefEqProofs -dsimp +contextual [-Bool.exists_bool, -Int.not_le, -Int.not_lt, -getElem?_pos, -List.getD_eq_getElem?_getD]
                            exact fin
                          · simp -implicitDefEqProofs -dsimp +contextual [-Bool.exists_bool, -Int.not_le, -Int.not_lt, -getElem?_pos, -List.getD_eq_getElem?_getD]
                            exact fin
                          · have hc := hc rfl rfl
                            try simp [-Bool.exists_bool, -Int.not_le, -Int.not_lt, -getElem?_pos, -List.getD_eq_getElem?_getD] at hc
                            subst hc
                            simp -implicitDefEqProofs -dsimp +contextual [-Bool.exists_bool, -Int.not_le, -Int.not_lt, -getElem?_pos, -List.getD_eq_getElem?_getD]
                            exact fin
                        · simp only [p2, z0, decide_true, decide_false, Bool.false_or] at hi hc
                          exact absurd (hi (by first | rfl | trivial) (by first | rfl | trivial)) (by simp [-Bool.exists_bool, -Int.not_le, -Int.not_lt, -getElem?_pos, -List.getD_eq_getElem?_getD])
                      · simp only [p2, z0, decide_true, decide_false, Bool.false_or, Bool.false_and] at hi hc
                        exact absurd (hi (by first | rfl | trivial) (by first | rfl | trivial)) (by simp [-Bool.exists_bool, -Int.not_le, -Int.not_lt, -getElem?_pos, -List.getD_eq_getElem?_getD])
                  · simp only [p1, z1, decide_true, decide_false, Bool.false_or] at hi hc
                    exact absurd (hi (by first | rfl | trivial) (by first | rfl | trivial)) (by simp [-Bool.exists_bool, -Int.not_le, -Int.not_lt, -getElem?_pos, -List.getD_eq_getElem?_getD])
                · simp only [p1, z1, decide_true, decide_false, Bool.false_or, Bool.false_and] at hi hc
                  exact absurd (hi (by first | rfl | trivial) (by first | rfl | trivial)) (by simp [-Bool.exists_bool, -Int.not_le, -Int.not_lt, -getElem?_pos, -List.getD_eq_getElem?_getD])
        · exact absurd (hi (by first | rfl | trivial) (by first | rfl | trivial)) (by simp [-Bool.exists_bool, -Int.not_le, -Int.not_lt, -getElem?_pos, -List.getD_eq_getElem?_getD])
end Go.Proofs.YtjknjekemolndaaGreat.ZL
