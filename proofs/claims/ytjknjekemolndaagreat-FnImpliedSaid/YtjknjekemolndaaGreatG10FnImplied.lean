/- Texts of the abs road (plain values, what code does to them, and the contracts of the functions that the law reaches). No condition. -/
import Derived.Test.YtjknjekemolndaaGreatG9FnImplied
namespace Go.Proofs.YtjknjekemolndaaGreat.ZL
open Go Go.Proofs.YtjknjekemolndaaGreat.Abs Go.Proofs.YtjknjekemolndaaGreat.Abs.Pl Go.RowKit Go.Proofs
set_option linter.unusedVariables false
set_option linter.unusedSimpArgs false
set_option linter.unnecessarySimpa false
set_option maxRecDepth 100000
theorem pickF_cu (cd l : List Int) (c : Cu) (h : c.1 ≤ cd.length) : (pickF cd l c).2.1 ≤ cd.length := belowF_cu _ _ _ h
theorem pickF_mem (cd l : List Int) (c : Cu) (h : 0 < l.length) : (pickF cd l c).1 ∈ l := by
  have := belowF_bd cd (n := l.length) c (by omega)
  exact nth_mem (by omega)
def smA (L : List At) : Prop := ∀ a ∈ L, a.1.length ≤ 5
theorem us_ok (cd : List Int) (d : Nat) (hd : d ≤ 4) : ∀ (n : Nat) (L : List At) (c : Cu), smA L → c.1 ≤ cd.length → smA (us cd d n L c).1 ∧ (us cd d n L c).2.1 ≤ cd.length ∧ (us cd d n L c).1.length = L.length + n
  | 0, L, c, h, hc => ⟨h, hc, rfl⟩
  | n + 1, L, c, h, hc => by
    have := us_ok cd d hd n (L ++ [at2 (drA cd d c).1]) (drA cd d c).2 (fun a ha => by
      rcases List.mem_append.1 ha with ha | ha
      · exact h a ha
      · rw [List.mem_singleton.1 ha]
        have := (drA_ok cd d c hd).2
        show (drA cd d c).1.1.length ≤ 5
        omega) (drA_cu cd d c hc)
    refine ⟨this.1, this.2.1, ?_⟩
    have h3 := this.2.2
    simp only [List.length_append, List.length_singleton] at h3
    show (us cd d n _ _).1.length = _
    omega
theorem axA_ok (cd : List Int) (d v : Nat) (c : Cu) (hd : d ≤ 4) : (axA cd d v c).1.1.length ≤ 4 := by
  unfold axA mkA
  split
  · exact mkAt_len _ _ _
  · simp [-Bool.exists_bool, -Int.not_le, -Int.not_lt, -getElem?_pos, -List.getD_eq_getElem?_getD, noAt]
theorem axA_cu (cd : List Int) (d v : Nat) (c : Cu) (h : c.1 ≤ cd.length) : (axA cd d v c).2.1 ≤ cd.length := belowF_cu _ _ _ (belowF_cu _ _ _ (belowF_cu _ _ _ h))
theorem vs_ok (cd : List Int) (d : Nat) (hd : d ≤ 4) : ∀ (k v : Nat) (L : List At) (c : Cu), smA L → c.1 ≤ cd.length → smA (vs cd d k v L c).1 ∧ (vs cd d k v L c).2.1 ≤ cd.length ∧ (vs cd d k v L c).1.length ≤ L.length + k
  | 0, v, L, c, h, hc => ⟨h, hc, Nat.le_refl _⟩
  | k + 1, v, L, c, h, hc => by
    unfold vs
    split
    · have := vs_ok cd d hd k (v + 1) (L ++ [at2 (axA cd d v (belowF cd 2 c).2).1]) (axA cd d v (belowF cd 2 c).2).2 (fun a ha => by
        rcases List.mem_append.1 ha with ha | ha
        · exact h a ha
        · rw [List.mem_singleton.1 ha]
          have := axA_ok cd d v (belowF cd 2 c).2 hd
          show (axA cd d v (belowF cd 2 c).2).1.1.length ≤ 5
          omega) (axA_cu _ _ _ _ (belowF_cu _ _ _ hc))
      refine ⟨this.1, this.2.1, ?_⟩
      have h3 := this.2.2
      simp only [List.length_append, List.length_singleton] at h3
      omega
    · exact ⟨h, belowF_cu _ _ _ hc, Nat.le_add_right _ _⟩
theorem dr3_ok (cd : List Int) (d : Nat) (c : Cu) (hd : d ≤ 4) (hc : c.1 ≤ cd.length) : smA (dr3 cd d c).1 ∧ (dr3 cd d c).2.1 ≤ cd.length ∧ (dr3 cd d c).1.length ≤ 7 := by
  have hb := belowF_bd cd (n := 4) c (by omega)
  have h1 := us_ok cd d hd (belowF cd 4 c).1.toNat [] (belowF cd 4 c).2 (fun a ha => by simp [-Bool.exists_bool, -Int.not_le, -Int.not_lt, -getElem?_pos, -List.getD_eq_getElem?_getD] at ha) (belowF_cu _ _ _ hc)
  have h2 := vs_ok cd d hd d 0 _ _ h1.1 h1.2.1
  refine ⟨h2.1, h2.2.1, ?_⟩
  have h3 := h2.2.2
  rw [h1.2.2] at h3
  simp only [List.length_nil] at h3
  show (vs cd d d 0 _ _).1.length ≤ 7
  omega
theorem spA_len (cd : List Int) (a : At) (c : Cu) : (spA cd a c).1.1.length ≤ a.1.length + 1 := by
  unfold spA
  repeat' split
  all_goals simp [-Bool.exists_bool, -Int.not_le, -Int.not_lt, -getElem?_pos, -List.getD_eq_getElem?_getD]
def smC (x : Int × List At) : Prop := x.2.length ≤ 100 ∧ ∀ a ∈ x.2, a.1.length ≤ 100
theorem sp3_ok (cd : List Int) (d : Int) (L : List At) (c : Cu) (h : smA L) (hl : L.length ≤ 7) (hc : c.1 ≤ cd.length) : smC (sp3 cd d L c).1 ∧ (sp3 cd d L c).2.1 ≤ cd.length := by
  have h1 := belowF_cu cd 40 c hc
  have hL : smC (d, L) := ⟨by show L.length ≤ 100; omega, fun a ha => by have := h a ha; omega⟩
  unfold sp3
  split
  · exact ⟨hL, pickF_cu _ _ _ h1⟩
  · split
    · cases L with
      | nil => exact ⟨hL, h1⟩
      | cons a T =>
        refine ⟨⟨by simpa [-Bool.exists_bool, -Int.not_le, -Int.not_lt, -getElem?_pos, -List.getD_eq_getElem?_getD] using hL.1, fun b hb => ?_⟩, spA_cu _ _ _ h1⟩
        rcases List.mem_cons.1 hb with rfl | hb
        · have := spA_len cd a (belowF cd 40 c).2
          have := h a (by simp [-Bool.exists_bool, -Int.not_le, -Int.not_lt, -getElem?_pos, -List.getD_eq_getElem?_getD])
          omega
        · exact hL.2 b (by simp [-Bool.exists_bool, -Int.not_le, -Int.not_lt, -getElem?_pos, -List.getD_eq_getElem?_getD, hb])
    · split
      · cases L with
        | nil => exact ⟨hL, h1⟩
        | cons a T =>
          refine ⟨⟨by simp [-Bool.exists_bool, -Int.not_le, -Int.not_lt, -getElem?_pos, -List.getD_eq_getElem?_getD] at hl ⊢; omega, fun b hb => ?_⟩, h1⟩
          rcases List.mem_append.1 hb with hb | hb
          · exact hL.2 b hb
          · rw [(List.mem_replicate.1 hb).2]; exact hL.2 a (by simp [-Bool.exists_bool, -Int.not_le, -Int.not_lt, -getElem?_pos, -List.getD_eq_getElem?_getD])
      · exact ⟨hL, h1⟩
def dimL : List Int := [0, 1, 1, 2, 2, 2, 3]
def anF (cd : List Int) (c : Cu) : (Int × List At) × Cu :=
  sp3 cd (pickF cd dimL c).1 (dr3 cd (pickF cd dimL c).1.toNat (pickF cd dimL c).2).1 (dr3 cd (pickF cd dimL c).1.toNat (pickF cd dimL c).2).2
theorem dim_bd (cd : List Int) (c : Cu) : 0 ≤ (pickF cd dimL c).1 ∧ (pickF cd dimL c).1 ≤ 3 := by
  have := pickF_mem cd dimL c (by simp [-Bool.exists_bool, -Int.not_le, -Int.not_lt, -getElem?_pos, -List.getD_eq_getElem?_getD, dimL])
  generalize (pickF cd dimL c).1 = x at *
  simp [-Bool.exists_bool, -Int.not_le, -Int.not_lt, -getElem?_pos, -List.getD_eq_getElem?_getD, dimL] at this
  omega
theorem anF_ok (cd : List Int) (c : Cu) (hc : c.1 ≤ cd.length) : smC (anF cd c).1 ∧ (anF cd c).2.1 ≤ cd.length := by
  have hb := dim_bd cd c
  have h := dr3_ok cd (pickF cd dimL c).1.toNat (pickF cd dimL c).2 (by omega) (pickF_cu _ _ _ hc)
  exact sp3_ok cd _ _ _ h.1 h.2.2 h.2.1
theorem l3Any (cd : List Int) (c : Cu) (hc : c.1 ≤ cd.length) (h20 : cd.length ≤ 1048576) : Cm Tryz.prog 88 cA [.ptr (0, 1) 0] (cuH cd c) (C1 (anF cd c).1.1 (anF cd c).1.2) (cuH cd (anF cd c).2) := by
  refine Cm.of [] mixed Tryz.func88 rfl Tryz.call88 (by kernel_rfl) rfl ?_
  simp -implicitDefEqProofs -dsimp +contextual [-Bool.exists_bool, -Int.not_le, -Int.not_lt, -getElem?_pos, -List.getD_eq_getElem?_getD, Tryz.f88]
  have hc1 := pickF_cu cd dimL c hc
  have hb := dim_bd cd c
  have hdr := dr3_ok cd (pickF cd dimL c).1.toNat (pickF cd dimL c).2 (by omega) hc1
  refine callPick dimL (0, 1) (by simp [-Bool.exists_bool, -Int.not_le, -Int.not_lt, -getElem?_pos, -List.getD_eq_getElem?_getD, dimL]) hc h20 (by simp [-Bool.exists_bool, -Int.not_le, -Int.not_lt, -getElem?_pos, -List.getD_eq_getElem?_getD, setH]) (by simp [-Bool.exists_bool, -Int.not_le, -Int.not_lt, -getElem?_pos, -List.getD_eq_getElem?_getD]) (by simp [-Bool.exists_bool, -Int.not_le, -Int.not_lt, -getElem?_pos, -List.getD_eq_getElem?_getD]) ?_
  unfold anF
  generalize pickF cd dimL c = y at *
  obtain ⟨d, c1⟩ := y
  simp only at hc1 hb hdr ⊢
  obtain ⟨d, rfl⟩ : ∃ n : Nat, d = n := ⟨d.toNat, by omega⟩
  rw [Int.toNat_natCast] at hdr ⊢
  simp -implicitDefEqProofs -dsimp +contextual [-Bool.exists_bool, -Int.not_le, -Int.not_lt, -getElem?_pos, -List.getD_eq_getElem?_getD]
  refine callD3 d (0, 1) (by omega) hc1 h20 (by simp [-Bool.exists_bool, -Int.not_le, -Int.not_lt, -getElem?_pos, -List.getD_eq_getElem?_getD, setH]) (by simp [-Bool.exists_bool, -Int.not_le, -Int.not_lt, -getElem?_pos, -List.getD_eq_getElem?_getD]) (by simp [-Bool.exists_bool, -Int.not_le, -Int.not_lt, -getElem?_pos, -List.getD_eq_getElem?_getD]) (fun h => ?_) (fun a T h => ?_)
  · generalize dr3 cd d c1 = y at *
    obtain ⟨L, c2⟩ := y
    simp only at hdr h ⊢
    subst h
    simp -implicitDefEqProofs -dsimp +contextual [-Bool.exists_bool, -Int.not_le, -Int.not_lt, -getElem?_pos, -List.getD_eq_getElem?_getD]
    refine callSp3N (0, 1) d hdr.2.1 h20 (by simp [-Bool.exists_bool, -Int.not_le, -Int.not_lt, -getElem?_pos, -List.getD_eq_getElem?_getD, setH]) (by simp [-Bool.exists_bool, -Int.not_le, -Int.not_lt, -getElem?_pos, -List.getD_eq_getElem?_getD]) (by simp [-Bool.exists_bool, -Int.not_le, -Int.not_lt, -getElem?_pos, -List.getD_eq_getElem?_getD]) ?_
    simp -implicitDefEqProofs -dsimp +contextual [-Bool.exists_bool, -Int.not_le, -Int.not_lt, -getElem?_pos, -List.getD_eq_getElem?_getD]
    refine RLm.frzC [] 2 ?_ rfl ?_ ?_
    all_goals simp [-Bool.exists_bool, -Int.not_le, -Int.not_lt, -getElem?_pos, -List.getD_eq_getElem?_getD, setH]
  · generalize dr3 cd d c1 = y at *
    obtain ⟨L, c2⟩ := y
    simp only at hdr h ⊢
    subst h
    have h7 := hdr.2.2
    simp only [List.length_cons] at h7
    have ha := hdr.1 a (by simp [-Bool.exists_bool, -Int.not_le, -Int.not_lt, -getElem?_pos, -List.getD_eq_getElem?_getD])
    simp -implicitDefEqProofs -dsimp +contextual [-Bool.exists_bool, -Int.not_le, -Int.not_lt, -getElem?_pos, -List.getD_eq_getElem?_getD]
    refine callSp3 (0, 1) (7, 0) (7, 1) d a T (by omega) (by omega) hdr.2.1 h20 (by simp [-Bool.exists_bool, -Int.not_le, -Int.not_lt, -getElem?_pos, -List.getD_eq_getElem?_getD, setH]) (by simp [-Bool.exists_bool, -Int.not_le, -Int.not_lt, -getElem?_pos, -List.getD_eq_getElem?_getD, setH]) (by simp [-Bool.exists_bool, -Int.not_le, -Int.not_lt, -getElem?_pos, -List.getD_eq_getElem?_getD, setH]) (by simp [-Bool.exists_bool, -Int.not_le, -Int.not_lt, -getElem?_pos, -List.getD_eq_getElem?_getD]) (by simp [-Bool.exists_bool, -Int.not_le, -Int.not_lt, -getElem?_pos, -List.getD_eq_getElem?_getD]) (by simp [-Bool.exists_bool, -Int.not_le, -Int.not_lt, -getElem?_pos, -List.getD_eq_getElem?_getD]) ?_
    simp -implicitDefEqProofs -dsimp +contextual [-Bool.exists_bool, -Int.not_le, -Int.not_lt, -getElem?_pos, -List.getD_eq_getElem?_getD]
    refine RLm.frzC [] 2 ?_ rfl ?_ ?_
    all_goals simp [-Bool.exists_bool, -Int.not_le, -Int.not_lt, -getElem?_pos, -List.getD_eq_getElem?_getD, setH]
theorem callAny {N nx s : Nat} {H : Store} {K : Eff → Prop} {cd : List Int} {c : Cu} (kb : Key) (hc : c.1 ≤ cd.length) (h20 : cd.length ≤ 1048576) (hH : H kb = some (cuE cd c)) (hs : kb.1 ≠ s) (hn : kb.1 < nx) (hk : K ⟨C1 (anF cd c).1.1 (anF cd c).1.2, [kb], [kb], up1 kb (some (cuE cd (anF cd c).2)) noUp⟩) :
    CallJ Tryz.prog N nx s H 88 [.ptr kb 0] K := callCu kb (l3Any cd c hc h20) (fun g => rfl) (fun _ => by simp [-Bool.exists_bool, -Int.not_le, -Int.not_lt, -getElem?_pos, -List.getD_eq_getElem?_getD, allKs, allK]) (fun g => rfl) hH hs hn hk
end Go.Proofs.YtjknjekemolndaaGreat.ZL
namespace Go.Proofs.YtjknjekemolndaaGreat.ZL
open Go Go.Proofs.YtjknjekemolndaaGreat.Abs Go.Proofs.YtjknjekemolndaaGreat.Abs.Pl Go.RowKit Go.Proofs
set_option linter.unusedVariables false
set_option linter.unusedSimpArgs false
set_option linter.unnecessarySimpa false
set_option maxRecDepth 100000
def newC (cd : List Int) : Cu := (0, newF cd (newN cd))
theorem newC_ok (cd : List Int) : (newC cd).1 ≤ cd.length := Nat.zero_le _
def varF (cd : List Int) : (Int × List At) × Int := ((anF cd (newC cd)).1, (belowF cd 4 (anF cd (newC cd)).2).1 - 1)
theorem l3Var (cd : List Int) (h20 : cd.length ≤ 1048576) : Cn Tryz.prog 50 [Bs cd] (.tup [C1 (varF cd).1.1 (varF cd).1.2, I (varF cd).2]) hemp := by
  refine Cn.of [] mixed Tryz.func50 rfl Tryz.call50 (by kernel_rfl) rfl ?_
  simp -implicitDefEqProofs -dsimp +contextual [-Bool.exists_bool, -Int.not_le, -Int.not_lt, -getElem?_pos, -List.getD_eq_getElem?_getD, Tryz.f50]
  have hN := l1New cd h20
  change Cn Tryz.prog 65 [Bs cd] (.ptr (0, 0) 0) (hl [((0, 0), cuE cd (newC cd))]) at hN
  refine CallJ.pure hN rfl (by simp [-Bool.exists_bool, -Int.not_le, -Int.not_lt, -getElem?_pos, -List.getD_eq_getElem?_getD]) ?_
  simp -implicitDefEqProofs -dsimp +contextual [-Bool.exists_bool, -Int.not_le, -Int.not_lt, -getElem?_pos, -List.getD_eq_getElem?_getD]
  have h1 := anF_ok cd (newC cd) (newC_ok cd)
  unfold varF
  refine callAny (3, 0) (newC_ok cd) h20 (by simp [-Bool.exists_bool, -Int.not_le, -Int.not_lt, -getElem?_pos, -List.getD_eq_getElem?_getD, setH]) (by simp [-Bool.exists_bool, -Int.not_le, -Int.not_lt, -getElem?_pos, -List.getD_eq_getElem?_getD]) (by simp [-Bool.exists_bool, -Int.not_le, -Int.not_lt, -getElem?_pos, -List.getD_eq_getElem?_getD]) ?_
  generalize anF cd (newC cd) = y at *
  obtain ⟨x, c⟩ := y
  simp -implicitDefEqProofs -dsimp +contextual [-Bool.exists_bool, -Int.not_le, -Int.not_lt, -getElem?_pos, -List.getD_eq_getElem?_getD]
  have hb := belowF_bd cd (n := 4) c (by omega)
  refine callBelow 4 (3, 0) h1.2 h20 (by simp [-Bool.exists_bool, -Int.not_le, -Int.not_lt, -getElem?_pos, -List.getD_eq_getElem?_getD, setH]) (by simp [-Bool.exists_bool, -Int.not_le, -Int.not_lt, -getElem?_pos, -List.getD_eq_getElem?_getD]) (by simp [-Bool.exists_bool, -Int.not_le, -Int.not_lt, -getElem?_pos, -List.getD_eq_getElem?_getD]) ?_
  generalize belowF cd 4 c = y at *
  simp -implicitDefEqProofs -dsimp +contextual [-Bool.exists_bool, -Int.not_le, -Int.not_lt, -getElem?_pos, -List.getD_eq_getElem?_getD]
  rw [wr (x := y.1 - 1) (by omega) (by omega)]
  exact RLe.pure 3 (by simp [-Bool.exists_bool, -Int.not_le, -Int.not_lt, -getElem?_pos, -List.getD_eq_getElem?_getD, setH])
theorem DrawDropVariable (cd : List Int) (h20 : cd.length ≤ 1048576) : Cn Tryz.prog 13 [Bs cd] (.tup [C1 (varF cd).1.1 (varF cd).1.2, I (varF cd).2]) hemp := by
  refine Cn.of [] mixed Tryz.func13 rfl Tryz.call13 (by kernel_rfl) rfl ?_
  simp -implicitDefEqProofs -dsimp +contextual [-Bool.exists_bool, -Int.not_le, -Int.not_lt, -getElem?_pos, -List.getD_eq_getElem?_getD, Tryz.f13]
  refine CallJ.pure (l3Var cd h20) rfl (by simp [-Bool.exists_bool, -Int.not_le, -Int.not_lt, -getElem?_pos, -List.getD_eq_getElem?_getD]) ?_
  simp -implicitDefEqProofs -dsimp +contextual [-Bool.exists_bool, -Int.not_le, -Int.not_lt, -getElem?_pos, -List.getD_eq_getElem?_getD]
  exact RLe.pure 3 (by simp [-Bool.exists_bool, -Int.not_le, -Int.not_lt, -getElem?_pos, -List.getD_eq_getElem?_getD, setH])
theorem DrawBoundsOf (cd : List Int) (h20 : cd.length ≤ 1048576) : Cn Tryz.prog 32 [Bs cd] (.tup [C1 (varF cd).1.1 (varF cd).1.2, I (varF cd).2]) hemp := by
  refine Cn.of [] mixed Tryz.func32 rfl Tryz.call32 (by kernel_rfl) rfl ?_
  simp -implicitDefEqProofs -dsimp +contextual [-Bool.exists_bool, -Int.not_le, -Int.not_lt, -getElem?_pos, -List.getD_eq_getElem?_getD, Tryz.f32]
  refine CallJ.pure (l3Var cd h20) rfl (by simp [-Bool.exists_bool, -Int.not_le, -Int.not_lt, -getElem?_pos, -List.getD_eq_getElem?_getD]) ?_
  simp -implicitDefEqProofs -dsimp +contextual [-Bool.exists_bool, -Int.not_le, -Int.not_lt, -getElem?_pos, -List.getD_eq_getElem?_getD]
  exact RLe.pure 3 (by simp [-Bool.exists_bool, -Int.not_le, -Int.not_lt, -getElem?_pos, -List.getD_eq_getElem?_getD, setH])
theorem varF_ok (cd : List Int) : smC (varF cd).1 ∧ -1 ≤ (varF cd).2 ∧ (varF cd).2 ≤ 2 := by
  have h1 := anF_ok cd (newC cd) (newC_ok cd)
  have hb := belowF_bd cd (n := 4) (anF cd (newC cd)).2 (by omega)
  refine ⟨h1.1, ?_, ?_⟩
  · show -1 ≤ (belowF cd 4 (anF cd (newC cd)).2).1 - 1; omega
  · show (belowF cd 4 (anF cd (newC cd)).2).1 - 1 ≤ 2; omega
end Go.Proofs.YtjknjekemolndaaGreat.ZL
namespace Go.Proofs.YtjknjekemolndaaGreat.ZL
open Go Go.Proofs.YtjknjekemolndaaGreat.Abs Go.Proofs.YtjknjekemolndaaGreat.Abs.Pl Go.RowKit Go.Proofs
set_option linter.unusedVariables false
set_option linter.unusedSimpArgs false
set_option linter.unnecessarySimpa false
set_option maxRecDepth 100000
set_option maxHeartbeats 8000000
theorem big (cd : List Int) : Cn Tryz.prog 12 [Bs cd] (B (decide (1048576 < cd.length))) hemp := by
  refine Cn.of [] mixed Tryz.func12 rfl Tryz.call12 (by kernel_rfl) rfl ?_
  simp -implicitDefEqProofs -dsimp +contextual [-Bool.exists_bool, -Int.not_le, -Int.not_lt, -getElem?_pos, -List.getD_eq_getElem?_getD, Tryz.f12]
  exact RLe.bb (by congr 1; simp [-Bool.exists_bool, -Int.not_le, -Int.not_lt, -getElem?_pos, -List.getD_eq_getElem?_getD]; omega)
theorem byts_of {cd : List Int} (h : ∀ y ∈ cd, (Lit.int .u8 y).wf = true) : byts cd := fun y hy => by
  have := h y hy
  simp [-Bool.exists_bool, -Int.not_le, -Int.not_lt, -getElem?_pos, -List.getD_eq_getElem?_getD, Lit.wf] at this
  exact this
theorem csD_one (d : Int) (L : List At) : csD [(d, L)] = [.int .i64 d, .sl L.length (asD L)] := rfl
end Go.Proofs.YtjknjekemolndaaGreat.ZL
namespace Go.Proofs.YtjknjekemolndaaGreat.ZL
open Go Go.Proofs.YtjknjekemolndaaGreat.Abs Go.Proofs.YtjknjekemolndaaGreat.Abs.Pl Go.RowKit Go.Proofs
set_option linter.unusedVariables false
set_option linter.unusedSimpArgs false
set_option linter.unnecessarySimpa false
set_option maxRecDepth 100000
def an2 (cd : List Int) (d : Nat) (c : Cu) : Ce × Cu := sp3 cd d (dr3 cd d c).1 (dr3 cd d c).2
theorem an2_ok (cd : List Int) (d : Nat) (hd : d ≤ 4) (c : Cu) (hc : c.1 ≤ cd.length) : smC (an2 cd d c).1 ∧ (an2 cd d c).2.1 ≤ cd.length := by
  have h := dr3_ok cd d c hd hc
  exact sp3_ok cd _ _ _ h.1 h.2.2 h.2.1
def twF (cd : List Int) : Ce × Ce := ((an2 cd (belowF cd 4 (newC cd)).1.toNat (belowF cd 4 (newC cd)).2).1, (an2 cd (belowF cd 4 (newC cd)).1.toNat (an2 cd (belowF cd 4 (newC cd)).1.toNat (belowF cd 4 (newC cd)).2).2).1)
theorem l3Two (cd : List Int) (h20 : cd.length ≤ 1048576) : Cn Tryz.prog 95 [Bs cd] (.tup [C1 (twF cd).1.1 (twF cd).1.2, C1 (twF cd).2.1 (twF cd).2.2]) hemp := by
  refine Cn.of [] mixed Tryz.func95 rfl Tryz.call95 (by kernel_rfl) rfl ?_
  simp -implicitDefEqProofs -dsimp +contextual [-Bool.exists_bool, -Int.not_le, -Int.not_lt, -getElem?_pos, -List.getD_eq_getElem?_getD, Tryz.f95]
  have hN := l1New cd h20
  change Cn Tryz.prog 65 [Bs cd] (.ptr (0, 0) 0) (hl [((0, 0), cuE cd (newC cd))]) at hN
  refine CallJ.pure hN rfl (by simp [-Bool.exists_bool, -Int.not_le, -Int.not_lt, -getElem?_pos, -List.getD_eq_getElem?_getD]) ?_
  simp -implicitDefEqProofs -dsimp +contextual [-Bool.exists_bool, -Int.not_le, -Int.not_lt, -getElem?_pos, -List.getD_eq_getElem?_getD]
  have hb := belowF_bd cd (n := 4) (newC cd) (by omega)
  have hc1 := belowF_cu cd 4 (newC cd) (newC_ok cd)
  refine callBelow 4 (3, 0) (newC_ok cd) h20 (by simp [-Bool.exists_bool, -Int.not_le, -Int.not_lt, -getElem?_pos, -List.getD_eq_getElem?_getD, setH]) (by simp [-Bool.exists_bool, -Int.not_le, -Int.not_lt, -getElem?_pos, -List.getD_eq_getElem?_getD]) (by simp [-Bool.exists_bool, -Int.not_le, -Int.not_lt, -getElem?_pos, -List.getD_eq_getElem?_getD]) ?_
  unfold twF
  generalize belowF cd 4 (newC cd) = y at *
  obtain ⟨x, c1⟩ := y
  simp only at hb hc1
  obtain ⟨d, rfl⟩ : ∃ n : Nat, x = n := ⟨x.toNat, by omega⟩
  simp only [Int.toNat_natCast]
  have s1 := an2_ok cd d (by omega) c1 hc1
  have hk1 := dr3_ok cd d c1 (by omega) hc1
  have e1 : an2 cd d c1 = sp3 cd d (dr3 cd d c1).1 (dr3 cd d c1).2 := rfl
  simp -implicitDefEqProofs -dsimp +contextual [-Bool.exists_bool, -Int.not_le, -Int.not_lt, -getElem?_pos, -List.getD_eq_getElem?_getD]
  refine callD3 d (3, 0) (by omega) hc1 h20 (by simp [-Bool.exists_bool, -Int.not_le, -Int.not_lt, -getElem?_pos, -List.getD_eq_getElem?_getD, setH]) (by simp [-Bool.exists_bool, -Int.not_le, -Int.not_lt, -getElem?_pos, -List.getD_eq_getElem?_getD]) (by simp [-Bool.exists_bool, -Int.not_le, -Int.not_lt, -getElem?_pos, -List.getD_eq_getElem?_getD]) (fun h => ?_) (fun a T h => ?_)
  · rw [h] at e1
    generalize dr3 cd d c1 = y at *
    obtain ⟨M, c3⟩ := y
    simp only at h hk1 e1
    subst h
    simp -implicitDefEqProofs -dsimp +contextual [-Bool.exists_bool, -Int.not_le, -Int.not_lt, -getElem?_pos, -List.getD_eq_getElem?_getD]
    refine callSp3N (3, 0) d hk1.2.1 h20 (by simp [-Bool.exists_bool, -Int.not_le, -Int.not_lt, -getElem?_pos, -List.getD_eq_getElem?_getD, setH]) (by simp [-Bool.exists_bool, -Int.not_le, -Int.not_lt, -getElem?_pos, -List.getD_eq_getElem?_getD]) (by simp [-Bool.exists_bool, -Int.not_le, -Int.not_lt, -getElem?_pos, -List.getD_eq_getElem?_getD]) ?_
    rw [← e1]
    generalize an2 cd d c1 = y at *
    obtain ⟨a1, c2⟩ := y
    simp only at s1
    simp -implicitDefEqProofs -dsimp +contextual [-Bool.exists_bool, -Int.not_le, -Int.not_lt, -getElem?_pos, -List.getD_eq_getElem?_getD]
    have h2 := dr3_ok cd d c2 (by omega) s1.2
    have e2 : an2 cd d c2 = sp3 cd d (dr3 cd d c2).1 (dr3 cd d c2).2 := rfl
    refine callD3 d (3, 0) (by omega) s1.2 h20 (by simp [-Bool.exists_bool, -Int.not_le, -Int.not_lt, -getElem?_pos, -List.getD_eq_getElem?_getD, setH]) (by simp [-Bool.exists_bool, -Int.not_le, -Int.not_lt, -getElem?_pos, -List.getD_eq_getElem?_getD]) (by simp [-Bool.exists_bool, -Int.not_le, -Int.not_lt, -getElem?_pos, -List.getD_eq_getElem?_getD]) (fun h => ?_) (fun a T h => ?_)
    · rw [h] at e2
      generalize dr3 cd d c2 = y at *
      obtain ⟨M, c3⟩ := y
      simp only at h h2 e2
      subst h
      simp -implicitDefEqProofs -dsimp +contextual [-Bool.exists_bool, -Int.not_le, -Int.not_lt, -getElem?_pos, -List.getD_eq_getElem?_getD]
      refine callSp3N (3, 0) d h2.2.1 h20 (by simp [-Bool.exists_bool, -Int.not_le, -Int.not_lt, -getElem?_pos, -List.getD_eq_getElem?_getD, setH]) (by simp [-Bool.exists_bool, -Int.not_le, -Int.not_lt, -getElem?_pos, -List.getD_eq_getElem?_getD]) (by simp [-Bool.exists_bool, -Int.not_le, -Int.not_lt, -getElem?_pos, -List.getD_eq_getElem?_getD]) ?_
      rw [e2]
      simp -implicitDefEqProofs -dsimp +contextual [-Bool.exists_bool, -Int.not_le, -Int.not_lt, -getElem?_pos, -List.getD_eq_getElem?_getD]
      exact RLe.pure 3 (by simp [-Bool.exists_bool, -Int.not_le, -Int.not_lt, -getElem?_pos, -List.getD_eq_getElem?_getD, setH])
    · rw [h] at e2
      generalize dr3 cd d c2 = y at *
      obtain ⟨M, c3⟩ := y
      simp only at h h2 e2
      subst h
      have h7 := h2.2.2
      simp only [List.length_cons] at h7
      have ha := h2.1 a (by simp [-Bool.exists_bool, -Int.not_le, -Int.not_lt, -getElem?_pos, -List.getD_eq_getElem?_getD])
      simp -implicitDefEqProofs -dsimp +contextual [-Bool.exists_bool, -Int.not_le, -Int.not_lt, -getElem?_pos, -List.getD_eq_getElem?_getD]
      refine callSp3 (3, 0) (16, 0) (16, 1) d a T (by omega) (by omega) h2.2.1 h20 (by simp [-Bool.exists_bool, -Int.not_le, -Int.not_lt, -getElem?_pos, -List.getD_eq_getElem?_getD, setH]) (by simp [-Bool.exists_bool, -Int.not_le, -Int.not_lt, -getElem?_pos, -List.getD_eq_getElem?_getD, setH]) (by simp [-Bool.exists_bool, -Int.not_le, -Int.not_lt, -getElem?_pos, -List.getD_eq_getElem?_getD, setH]) (by simp [-Bool.exists_bool, -Int.not_le, -Int.not_lt, -getElem?_pos, -List.getD_eq_getElem?_getD]) (by simp [-Bool.exists_bool, -Int.not_le, -Int.not_lt, -getElem?_pos, -List.getD_eq_getElem?_getD]) (by simp [-Bool.exists_bool, -Int.not_le, -Int.not_lt, -getElem?_pos, -List.getD_eq_getElem?_getD]) ?_
      rw [e2]
      simp -implicitDefEqProofs -dsimp +contextual [-Bool.exists_bool, -Int.not_le, -Int.not_lt, -getElem?_pos, -List.getD_eq_getElem?_getD]
      exact RLe.pure 3 (by simp [-Bool.exists_bool, -Int.not_le, -Int.not_lt, -getElem?_pos, -List.getD_eq_getElem?_getD, setH])
  · rw [h] at e1
    generalize dr3 cd d c1 = y at *
    obtain ⟨M, c3⟩ := y
    simp only at h hk1 e1
    subst h
    have h7 := hk1.2.2
    simp only [List.length_cons] at h7
    have ha := hk1.1 a (by simp [-Bool.exists_bool, -Int.not_le, -Int.not_lt, -getElem?_pos, -List.getD_eq_getElem?_getD])
    simp -implicitDefEqProofs -dsimp +contextual [-Bool.exists_bool, -Int.not_le, -Int.not_lt, -getElem?_pos, -List.getD_eq_getElem?_getD]
    refine callSp3 (3, 0) (11, 0) (11, 1) d a T (by omega) (by omega) hk1.2.1 h20 (by simp [-Bool.exists_bool, -Int.not_le, -Int.not_lt, -getElem?_pos, -List.getD_eq_getElem?_getD, setH]) (by simp [-Bool.exists_bool, -Int.not_le, -Int.not_lt, -getElem?_pos, -List.getD_eq_getElem?_getD, setH]) (by simp [-Bool.exists_bool, -Int.not_le, -Int.not_lt, -getElem?_pos, -List.getD_eq_getElem?_getD, setH]) (by simp [-Bool.exists_bool, -Int.not_le, -Int.not_lt, -getElem?_pos, -List.getD_eq_getElem?_getD]) (by simp [-Bool.exists_bool, -Int.not_le, -Int.not_lt, -getElem?_pos, -List.getD_eq_getElem?_getD]) (by simp [-Bool.exists_bool, -Int.not_le, -Int.not_lt, -getElem?_pos, -List.getD_eq_getElem?_getD]) ?_
    rw [← e1]
    generalize an2 cd d c1 = y at *
    obtain ⟨a1, c2⟩ := y
    simp only at s1
    simp -implicitDefEqProofs -dsimp +contextual [-Bool.exists_bool, -Int.not_le, -Int.not_lt, -getElem?_pos, -List.getD_eq_getElem?_getD]
    have h2 := dr3_ok cd d c2 (by omega) s1.2
    have e2 : an2 cd d c2 = sp3 cd d (dr3 cd d c2).1 (dr3 cd d c2).2 := rfl
    refine callD3 d (3, 0) (by omega) s1.2 h20 (by simp [-Bool.exists_bool, -Int.not_le, -Int.not_lt, -getElem?_pos, -List.getD_eq_getElem?_getD, setH]) (by simp [-Bool.exists_bool, -Int.not_le, -Int.not_lt, -getElem?_pos, -List.getD_eq_getElem?_getD]) (by simp [-Bool.exists_bool, -Int.not_le, -Int.not_lt, -getElem?_pos, -List.getD_eq_getElem?_getD]) (fun h => ?_) (fun a T h => ?_)
    · rw [h] at e2
      generalize dr3 cd d c2 = y at *
      obtain ⟨M, c3⟩ := y
      simp only at h h2 e2
      subst h
      simp -implicitDefEqProofs -dsimp +contextual [-Bool.exists_bool, -Int.not_le, -Int.not_lt, -getElem?_pos, -List.getD_eq_getElem?_getD]
      refine callSp3N (3, 0) d h2.2.1 h20 (by simp [-Bool.exists_bool, -Int.not_le, -Int.not_lt, -getElem?_pos, -List.getD_eq_getElem?_getD, setH]) (by simp [-Bool.exists_bool, -Int.not_le, -Int.not_lt, -getElem?_pos, -List.getD_eq_getElem?_getD]) (by simp [-Bool.exists_bool, -Int.not_le, -Int.not_lt, -getElem?_pos, -List.getD_eq_getElem?_getD]) ?_
      rw [e2]
      simp -implicitDefEqProofs -dsimp +contextual [-Bool.exists_bool, -Int.not_le, -Int.not_lt, -getElem?_pos, -List.getD_eq_getElem?_getD]
      exact RLe.pure 3 (by simp [-Bool.exists_bool, -Int.not_le, -Int.not_lt, -getElem?_pos, -List.getD_eq_getElem?_getD, setH])
    · rw [h] at e2
      generalize dr3 cd d c2 = y at *
      obtain ⟨M, c3⟩ := y
      simp only at h h2 e2
      subst h
      have h7 := h2.2.2
      simp only [List.length_cons] at h7
      have ha := h2.1 a (by simp [-Bool.exists_bool, -Int.not_le, -Int.not_lt, -getElem?_pos, -List.getD_eq_getElem?_getD])
      simp -implicitDefEqProofs -dsimp +contextual [-Bool.exists_bool, -Int.not_le, -Int.not_lt, -getElem?_pos, -List.getD_eq_getElem?_getD]
      refine callSp3 (3, 0) (16, 0) (16, 1) d a T (by omega) (by omega) h2.2.1 h20 (by simp [-Bool.exists_bool, -Int.not_le, -Int.not_lt, -getElem?_pos, -List.getD_eq_getElem?_getD, setH]) (by simp [-Bool.exists_bool, -Int.not_le, -Int.not_lt, -getElem?_pos, -List.getD_eq_getElem?_getD, setH]) (by simp [-Bool.exists_bool, -Int.not_le, -Int.not_lt, -getElem?_pos, -List.getD_eq_getElem?_getD, setH]) (by simp [-Bool.exists_bool, -Int.not_le, -Int.not_lt, -getElem?_pos, -List.getD_eq_getElem?_getD]) (by simp [-Bool.exists_bool, -Int.not_le, -Int.not_lt, -getElem?_pos, -List.getD_eq_getElem?_getD]) (by simp [-Bool.exists_bool, -Int.not_le, -Int.not_lt, -getElem?_pos, -List.getD_eq_getElem?_getD]) ?_
      rw [e2]
      simp -implicitDefEqProofs -dsimp +contextual [-Bool.exists_bool, -Int.not_le, -Int.not_lt, -getElem?_pos, -List.getD_eq_getElem?_getD]
      exact RLe.pure 3 (by simp [-Bool.exists_bool, -Int.not_le, -Int.not_lt, -getElem?_pos, -List.getD_eq_getElem?_getD, setH])
end Go.Proofs.YtjknjekemolndaaGreat.ZL
namespace Go.Proofs.YtjknjekemolndaaGreat.ZL
open Go Go.Proofs.YtjknjekemolndaaGreat.Abs Go.Proofs.YtjknjekemolndaaGreat.Abs.Pl Go.RowKit Go.Proofs
set_option linter.unusedVariables false
set_option linter.unusedSimpArgs false
set_option linter.unnecessarySimpa false
set_option maxRecDepth 100000
theorem callCu2 {N nx s f : Nat} {H : Store} {K : Eff → Prop} {cd : List Int} {c c' : Cu} {r : V} {vs : List V} (kb : Key) (h : Cm Tryz.prog f cA (.ptr (0, 1) 0 :: vs) (cuH cd c) r (cuH cd c')) (hv : ∀ g : Key → Key, mapL g vs = vs) (hvk : ∀ p : Key → Prop, allKs p vs) (hr : ∀ g : Key → Key, mapK g r = r)
    (hH : H kb = some (cuE cd c)) (hs : kb.1 ≠ s) (hk : K ⟨r, [kb], [kb], up1 kb (some (cuE cd c')) noUp⟩) : CallJ Tryz.prog N nx s H f (.ptr kb 0 :: vs) K := by
  have hup : upMut (fun _ => kb) (fun k => if k = kb then some 0 else none) s (cuH cd c') = up1 kb (some (cuE cd c')) noUp := by
    funext k
    unfold upMut up1
    by_cases h1 : k = kb
    · subst h1
      rw [if_neg hs, if_pos rfl]
      simp [-Bool.exists_bool, -Int.not_le, -Int.not_lt, -getElem?_pos, -List.getD_eq_getElem?_getD, mapE]
    · rw [if_neg h1]
      simp [-Bool.exists_bool, -Int.not_le, -Int.not_lt, -getElem?_pos, -List.getD_eq_getElem?_getD, h1, noUp]
  rw [← hup] at hk
  refine CallJ.mut (fun _ => kb) (fun k => if k = kb then some 0 else none) [kb] [] h ?_ ?_ ?_ ?_ ?_ ?_ ?_ ?_ (by rw [hr]; simpa [-Bool.exists_bool, -Int.not_le, -Int.not_lt, -getElem?_pos, -List.getD_eq_getElem?_getD] using hk)
  · simp [-Bool.exists_bool, -Int.not_le, -Int.not_lt, -getElem?_pos, -List.getD_eq_getElem?_getD, gk, hv]
  · simp [-Bool.exists_bool, -Int.not_le, -Int.not_lt, -getElem?_pos, -List.getD_eq_getElem?_getD, allKs, allK, hvk, cA]
  · rintro k rfl; simp [-Bool.exists_bool, -Int.not_le, -Int.not_lt, -getElem?_pos, -List.getD_eq_getElem?_getD, hH]
  · intro k e h
    simp [-Bool.exists_bool, -Int.not_le, -Int.not_lt, -getElem?_pos, -List.getD_eq_getElem?_getD] at h
    obtain ⟨rfl, rfl⟩ := h
    simp [-Bool.exists_bool, -Int.not_le, -Int.not_lt, -getElem?_pos, -List.getD_eq_getElem?_getD, hH, mapE, allKE, allKs, allK, cA]
  · intro k j h
    simp [-Bool.exists_bool, -Int.not_le, -Int.not_lt, -getElem?_pos, -List.getD_eq_getElem?_getD] at h
    obtain ⟨rfl, rfl⟩ := h
    simp [-Bool.exists_bool, -Int.not_le, -Int.not_lt, -getElem?_pos, -List.getD_eq_getElem?_getD]
  · simp [-Bool.exists_bool, -Int.not_le, -Int.not_lt, -getElem?_pos, -List.getD_eq_getElem?_getD]
  · intro k e h
    simp [-Bool.exists_bool, -Int.not_le, -Int.not_lt, -getElem?_pos, -List.getD_eq_getElem?_getD] at h
    obtain ⟨rfl, rfl⟩ := h
    simp [-Bool.exists_bool, -Int.not_le, -Int.not_lt, -getElem?_pos, -List.getD_eq_getElem?_getD]
  · simp [-Bool.exists_bool, -Int.not_le, -Int.not_lt, -getElem?_pos, -List.getD_eq_getElem?_getD, hH, slotsL, slotsV]
theorem callSpoil2 {N nx s : Nat} {H : Store} {K : Eff → Prop} {cd : List Int} {c : Cu} (kb kr : Key) (a : At) (ha : a.1.length ≤ 1048576) (hc : c.1 ≤ cd.length) (h20 : cd.length ≤ 1048576) (hb : H kb = some (cuE cd c)) (hr : H kr = some (rI a.1)) (hne : kb ≠ kr) (hs : kb.1 ≠ s ∧ kr.1 ≠ s)
    (k1 : ¬ (belowF cd 40 c).1 = 1 → K ⟨.agg [.ref kr (spA cd a c).1.1.length, I (spA cd a c).1.2.1, B (spA cd a c).1.2.2], [kb, kr], [kb, kr], upS2 kb kr (cuE cd (spA cd a c).2) (rI (spA cd a c).1.1)⟩)
    (k2 : (belowF cd 40 c).1 = 1 → K ⟨.agg [.ref (s, 0) (spA cd a c).1.1.length, I (spA cd a c).1.2.1, B (spA cd a c).1.2.2], [kb, kr], [kb, kr], upA2 kb kr s (cuE cd (spA cd a c).2) (rI (spA cd a c).1.1)⟩) :
    CallJ Tryz.prog N nx s H 89 [.ptr kb 0, .agg [.ref kr a.1.length, I a.2.1, B a.2.2]] K := by
  have base : ∀ {r : V} {Hr : Store}, Cm Tryz.prog 89 sA [.ptr (0, 1) 0, .agg [.ref (0, 2) a.1.length, I a.2.1, B a.2.2]] (sH cd c a.1) r Hr → (∀ k e, Hr k = some e → k.1 < 2 ∧ (k.1 = 0 → (sH cd c a.1 k).isSome = true)) → K ⟨mapK (gk (fun j => if j = 0 then kb else kr) s) r, [kb, kr], [kb, kr], upMut (fun j => if j = 0 then kb else kr) (fun k => if k = kb then some 0 else if k = kr then some 1 else none) s Hr⟩ → CallJ Tryz.prog N nx s H 89 [.ptr kb 0, .agg [.ref kr a.1.length, I a.2.1, B a.2.2]] K := fun {r Hr} hm h2 hk => by
    refine CallJ.mut (fun j => if j = 0 then kb else kr) (fun k => if k = kb then some 0 else if k = kr then some 1 else none) [kb, kr] [] hm ?_ ?_ ?_ ?_ ?_ ?_ h2 ?_ (by simpa [-Bool.exists_bool, -Int.not_le, -Int.not_lt, -getElem?_pos, -List.getD_eq_getElem?_getD] using hk)
    · simp [-Bool.exists_bool, -Int.not_le, -Int.not_lt, -getElem?_pos, -List.getD_eq_getElem?_getD, gk]
    · simp [-Bool.exists_bool, -Int.not_le, -Int.not_lt, -getElem?_pos, -List.getD_eq_getElem?_getD, allKs, allK, sA]
    · rintro k (rfl | rfl)
      · simp [-Bool.exists_bool, -Int.not_le, -Int.not_lt, -getElem?_pos, -List.getD_eq_getElem?_getD, hb]
      · simp [-Bool.exists_bool, -Int.not_le, -Int.not_lt, -getElem?_pos, -List.getD_eq_getElem?_getD, hr]
    · intro k e h
      have h := hl_mem h
      simp [-Bool.exists_bool, -Int.not_le, -Int.not_lt, -getElem?_pos, -List.getD_eq_getElem?_getD] at h
      rcases h with ⟨rfl, rfl⟩ | ⟨rfl, rfl⟩
      · simp [-Bool.exists_bool, -Int.not_le, -Int.not_lt, -getElem?_pos, -List.getD_eq_getElem?_getD, sA, hb, mapE, allKE, allKs, allK, gk]
      · simp [-Bool.exists_bool, -Int.not_le, -Int.not_lt, -getElem?_pos, -List.getD_eq_getElem?_getD, sA, hr, mapE, allKE, allKs, allK, gk, hne.symm]
    · intro k j h
      split at h
      · rename_i e
        obtain rfl := Option.some.inj h
        simp [-Bool.exists_bool, -Int.not_le, -Int.not_lt, -getElem?_pos, -List.getD_eq_getElem?_getD, e]
      · split at h
        · rename_i e1 e2
          obtain rfl := Option.some.inj h
          simp [-Bool.exists_bool, -Int.not_le, -Int.not_lt, -getElem?_pos, -List.getD_eq_getElem?_getD, e2]
        · cases h
    · simp [-Bool.exists_bool, -Int.not_le, -Int.not_lt, -getElem?_pos, -List.getD_eq_getElem?_getD, hne.symm]
    · simp [-Bool.exists_bool, -Int.not_le, -Int.not_lt, -getElem?_pos, -List.getD_eq_getElem?_getD, hb, hr, slotsL, slotsV]
  by_cases hx : (belowF cd 40 c).1 = 1
  · refine base (l2SpoilA cd c a hx ha hc h20) ?_ ?_
    · intro k e h
      have h := hl_mem h
      simp [-Bool.exists_bool, -Int.not_le, -Int.not_lt, -getElem?_pos, -List.getD_eq_getElem?_getD] at h
      rcases h with ⟨rfl, rfl⟩ | ⟨rfl, rfl⟩ <;> simp [-Bool.exists_bool, -Int.not_le, -Int.not_lt, -getElem?_pos, -List.getD_eq_getElem?_getD]
    · have := k2 hx
      have e : upMut (fun j => if j = 0 then kb else kr) (fun k => if k = kb then some 0 else if k = kr then some 1 else none) s (hl [((0, 1), cuE cd (spA cd a c).2), ((1, 0), rI (spA cd a c).1.1)]) = upA2 kb kr s (cuE cd (spA cd a c).2) (rI (spA cd a c).1.1) := by
        funext k
        unfold upMut upA2
        obtain ⟨a', b'⟩ := k
        split
        · rename_i hks
          simp only at hks
          subst hks
          have n1 : (a', b') ≠ kb := fun e => hs.1 (by rw [← e])
          have n2 : (a', b') ≠ kr := fun e => hs.2 (by rw [← e])
          by_cases hb0 : b' = 0
          · subst hb0; simp [-Bool.exists_bool, -Int.not_le, -Int.not_lt, -getElem?_pos, -List.getD_eq_getElem?_getD, mapE]
          · simp [-Bool.exists_bool, -Int.not_le, -Int.not_lt, -getElem?_pos, -List.getD_eq_getElem?_getD, n1, n2, hb0]
        · rename_i hks
          simp only at hks
          have e0 : ¬ (a', b') = (s, 0) := fun e => hks (by injection e)
          by_cases e1 : (a', b') = kb
          · simp only [if_neg e0, if_pos e1]; simp [-Bool.exists_bool, -Int.not_le, -Int.not_lt, -getElem?_pos, -List.getD_eq_getElem?_getD, mapE, gk]
          · by_cases e2 : (a', b') = kr
            · simp only [if_neg e0, if_neg e1, if_pos e2]; simp [-Bool.exists_bool, -Int.not_le, -Int.not_lt, -getElem?_pos, -List.getD_eq_getElem?_getD]
            · simp only [if_neg e0, if_neg e1, if_neg e2]
      rw [e]
      simpa [-Bool.exists_bool, -Int.not_le, -Int.not_lt, -getElem?_pos, -List.getD_eq_getElem?_getD, gk] using this
  · refine base (l2SpoilS cd c a hx hc h20) ?_ ?_
    · intro k e h
      have h := hl_mem h
      simp [-Bool.exists_bool, -Int.not_le, -Int.not_lt, -getElem?_pos, -List.getD_eq_getElem?_getD] at h
      rcases h with ⟨rfl, rfl⟩ | ⟨rfl, rfl⟩ <;> simp [-Bool.exists_bool, -Int.not_le, -Int.not_lt, -getElem?_pos, -List.getD_eq_getElem?_getD]
    · have := k1 hx
      have e : upMut (fun j => if j = 0 then kb else kr) (fun k => if k = kb then some 0 else if k = kr then some 1 else none) s (sH cd (spA cd a c).2 (spA cd a c).1.1) = upS2 kb kr (cuE cd (spA cd a c).2) (rI (spA cd a c).1.1) := by
        funext k
        unfold upMut upS2
        split
        · rename_i hks
          have n1 : k ≠ kb := fun e => hs.1 (by rw [← e]; exact hks)
          have n2 : k ≠ kr := fun e => hs.2 (by rw [← e]; exact hks)
          simp [-Bool.exists_bool, -Int.not_le, -Int.not_lt, -getElem?_pos, -List.getD_eq_getElem?_getD, n1, n2, hks]
        · by_cases e1 : k = kb
          · simp only [if_pos e1]; simp [-Bool.exists_bool, -Int.not_le, -Int.not_lt, -getElem?_pos, -List.getD_eq_getElem?_getD, mapE, gk]
          · by_cases e2 : k = kr
            · simp only [if_neg e1, if_pos e2]; simp [-Bool.exists_bool, -Int.not_le, -Int.not_lt, -getElem?_pos, -List.getD_eq_getElem?_getD, mapE, gk]
            · simp only [if_neg e1, if_neg e2]
      rw [e]
      simpa [-Bool.exists_bool, -Int.not_le, -Int.not_lt, -getElem?_pos, -List.getD_eq_getElem?_getD, gk] using this
theorem twF_ok (cd : List Int) : smC (twF cd).1 ∧ smC (twF cd).2 := by
  have hb := belowF_bd cd (n := 4) (newC cd) (by omega)
  have hc1 := belowF_cu cd 4 (newC cd) (newC_ok cd)
  have h1 := an2_ok cd (belowF cd 4 (newC cd)).1.toNat (by omega) _ hc1
  exact ⟨h1.1, (an2_ok cd _ (by omega) _ h1.2).1⟩
def cvF (cd : List Int) : Ce := if (meetC (twF cd).1 (twF cd).2).2.2 = true ∧ cd.length % 2 = 0 then ((meetC (twF cd).1 (twF cd).2).1, (meetC (twF cd).1 (twF cd).2).2.1) else (twF cd).2
theorem cvF_ok (cd : List Int) : (cvF cd).2.length ≤ 1048576 := by
  unfold cvF
  split
  · exact Nat.le_trans meetC_16 (by omega)
  · have := (twF_ok cd).2.1; omega
theorem DrawCoversCell (cd : List Int) (h20 : cd.length ≤ 1048576) : Cn Tryz.prog 46 [Bs cd] (.tup [C1 (twF cd).1.1 (twF cd).1.2, C1 (cvF cd).1 (cvF cd).2]) hemp := by
  refine Cn.of [0] mixed Tryz.func46 rfl Tryz.call46 (by kernel_rfl) rfl ?_
  simp -implicitDefEqProofs -dsimp +contextual [-Bool.exists_bool, -Int.not_le, -Int.not_lt, -getElem?_pos, -List.getD_eq_getElem?_getD, Tryz.f46]
  refine CallJ.pure (l3Two cd h20) rfl (by simp [-Bool.exists_bool, -Int.not_le, -Int.not_lt, -getElem?_pos, -List.getD_eq_getElem?_getD]) ?_
  have hs := twF_ok cd
  unfold cvF
  generalize twF cd = y at *
  obtain ⟨⟨a1, a2⟩, ⟨b1, b2⟩⟩ := y
  have h1 := hs.1.1
  have h2 := hs.2.1
  simp only at h1 h2
  have hM := MeetCells (a1, a2) (b1, b2) (by simp only; omega) (by simp only; omega)
  simp -implicitDefEqProofs -dsimp +contextual [-Bool.exists_bool, -Int.not_le, -Int.not_lt, -getElem?_pos, -List.getD_eq_getElem?_getD]
  generalize meetC (a1, a2) (b1, b2) = m at *
  obtain ⟨m1, m2, m3⟩ := m
  refine CallJ.pure hM rfl (by simp [-Bool.exists_bool, -Int.not_le, -Int.not_lt, -getElem?_pos, -List.getD_eq_getElem?_getD]) ?_
  have e2 : (cd.length : Int).tmod 2 = 0 ↔ cd.length % 2 = 0 := by
    rw [Int.tmod_eq_emod_of_nonneg (by omega)]; omega
  simp -implicitDefEqProofs -dsimp +contextual [-Bool.exists_bool, -Int.not_le, -Int.not_lt, -getElem?_pos, -List.getD_eq_getElem?_getD, e2]
  refine ⟨fun hm => ⟨fun h2 => ⟨Quiet.of [6] (by kernel_rfl) (by simp [-Bool.exists_bool, -Int.not_le, -Int.not_lt, -getElem?_pos, -List.getD_eq_getElem?_getD, allP, offB]), Quiet.of [] (by kernel_rfl) (by simp [-Bool.exists_bool, -Int.not_le, -Int.not_lt, -getElem?_pos, -List.getD_eq_getElem?_getD, allP, offB]), ?_⟩, fun h2 => ⟨Quiet.of [5] (by kernel_rfl) (by simp [-Bool.exists_bool, -Int.not_le, -Int.not_lt, -getElem?_pos, -List.getD_eq_getElem?_getD, allP, offB]), Quiet.of [] (by kernel_rfl) (by simp [-Bool.exists_bool, -Int.not_le, -Int.not_lt, -getElem?_pos, -List.getD_eq_getElem?_getD, allP, offB]), ?_⟩⟩, fun hm => ⟨Quiet.of [5] (by kernel_rfl) (by simp [-Bool.exists_bool, -Int.not_le, -Int.not_lt, -getElem?_pos, -List.getD_eq_getElem?_getD, allP, offB]), Quiet.of [] (by kernel_rfl) (by simp [-Bool.exists_bool, -Int.not_le, -Int.not_lt, -getElem?_pos, -List.getD_eq_getElem?_getD, allP, offB]), ?_⟩⟩
  · exact RLe.pure 3 (by simp [-Bool.exists_bool, -Int.not_le, -Int.not_lt, -getElem?_pos, -List.getD_eq_getElem?_getD, setH, hm, h2])
  · exact RLe.pure 3 (by simp [-Bool.exists_bool, -Int.not_le, -Int.not_lt, -getElem?_pos, -List.getD_eq_getElem?_getD, setH, hm, h2])
  · exact RLe.pure 3 (by simp [-Bool.exists_bool, -Int.not_le, -Int.not_lt, -getElem?_pos, -List.getD_eq_getElem?_getD, setH, hm])
theorem DrawImpliesAtom (cd : List Int) (h20 : cd.length ≤ 1048576) : ∃ (x : Ce) (a : At), smC x ∧ a.1.length ≤ 100 ∧ Cn Tryz.prog 42 [Bs cd] (.tup [C1 x.1 x.2, A1 a]) hemp := by
  have hN := l1New cd h20
  change Cn Tryz.prog 65 [Bs cd] (.ptr (0, 0) 0) (hl [((0, 0), cuE cd (newC cd))]) at hN
  have hx := anF_ok cd (newC cd) (newC_ok cd)
  obtain ⟨n, hn5, hn⟩ : ∃ n : Nat, n ≤ 5 ∧ (if 0 < if 5 < (anF cd (newC cd)).1.1 then 5 else (anF cd (newC cd)).1.1 then if 5 < (anF cd (newC cd)).1.1 then 5 else (anF cd (newC cd)).1.1 else 0) = (n : Int) := by
    generalize (anF cd (newC cd)).1.1 = d
    refine ⟨(if 0 < if 5 < d then 5 else d then if 5 < d then 5 else d else 0).toNat, ?_, ?_⟩
    all_goals repeat' split
    all_goals omega
  have hal : (drA cd n (anF cd (newC cd)).2).1.1.length ≤ 5 := by
    have := drL_len cd n (anF cd (newC cd)).2
    show (mkA _ _ _).1.length ≤ 5
    unfold mkA
    split
    · rename_i h4
      exact Nat.le_trans (mkAt_len _ _ _) (by omega)
    · simp [-Bool.exists_bool, -Int.not_le, -Int.not_lt, -getElem?_pos, -List.getD_eq_getElem?_getD, noAt]
  have hcu := drA_cu cd n (anF cd (newC cd)).2 hx.2
  cases hr : (drA cd n (anF cd (newC cd)).2).1.2.2.2 with
  | true =>
    refine ⟨(anF cd (newC cd)).1, (spA cd (at2 (drA cd n (anF cd (newC cd)).2).1) (drA cd n (anF cd (newC cd)).2).2).1, hx.1, Nat.le_trans (spA_len _ _ _) (by show (drA cd n (anF cd (newC cd)).2).1.1.length + 1 ≤ 100; omega), ?_⟩
    refine Cn.of [0] mixed Tryz.func42 rfl Tryz.call42 (by kernel_rfl) rfl ?_
    simp -implicitDefEqProofs -dsimp +contextual [-Bool.exists_bool, -Int.not_le, -Int.not_lt, -getElem?_pos, -List.getD_eq_getElem?_getD, Tryz.f42]
    refine CallJ.pure hN rfl (by simp [-Bool.exists_bool, -Int.not_le, -Int.not_lt, -getElem?_pos, -List.getD_eq_getElem?_getD]) ?_
    simp -implicitDefEqProofs -dsimp +contextual [-Bool.exists_bool, -Int.not_le, -Int.not_lt, -getElem?_pos, -List.getD_eq_getElem?_getD]
    refine callAny (3, 0) (newC_ok cd) h20 (by simp [-Bool.exists_bool, -Int.not_le, -Int.not_lt, -getElem?_pos, -List.getD_eq_getElem?_getD, setH]) (by simp [-Bool.exists_bool, -Int.not_le, -Int.not_lt, -getElem?_pos, -List.getD_eq_getElem?_getD]) (by simp [-Bool.exists_bool, -Int.not_le, -Int.not_lt, -getElem?_pos, -List.getD_eq_getElem?_getD]) ?_
    generalize anF cd (newC cd) = y at *
    obtain ⟨⟨d, L⟩, c⟩ := y
    simp only at hn hx hr hcu hal
    simp -implicitDefEqProofs -dsimp +contextual [-Bool.exists_bool, -Int.not_le, -Int.not_lt, -getElem?_pos, -List.getD_eq_getElem?_getD, hn]
    refine callDraw n (3, 0) hn5 hx.2 h20 (by simp [-Bool.exists_bool, -Int.not_le, -Int.not_lt, -getElem?_pos, -List.getD_eq_getElem?_getD, setH]) (by simp [-Bool.exists_bool, -Int.not_le, -Int.not_lt, -getElem?_pos, -List.getD_eq_getElem?_getD]) (by simp [-Bool.exists_bool, -Int.not_le, -Int.not_lt, -getElem?_pos, -List.getD_eq_getElem?_getD]) (fun b hb => ?_) (fun h => by rw [hr] at h; cases h)
    generalize drA cd n c = y at *
    obtain ⟨r, c2⟩ := y
    simp only at hb hcu hal hr
    subst hb
    simp only at hal
    simp -implicitDefEqProofs -dsimp +contextual [-Bool.exists_bool, -Int.not_le, -Int.not_lt, -getElem?_pos, -List.getD_eq_getElem?_getD]
    refine ⟨Quiet.of [5] (by kernel_rfl) (by simp [-Bool.exists_bool, -Int.not_le, -Int.not_lt, -getElem?_pos, -List.getD_eq_getElem?_getD, allP, offB]), ?_⟩
    refine callSpoil2 (3, 0) (16, 0) b (by omega) hcu h20 (by simp [-Bool.exists_bool, -Int.not_le, -Int.not_lt, -getElem?_pos, -List.getD_eq_getElem?_getD, setH]) (by simp [-Bool.exists_bool, -Int.not_le, -Int.not_lt, -getElem?_pos, -List.getD_eq_getElem?_getD, setH]) (by simp [-Bool.exists_bool, -Int.not_le, -Int.not_lt, -getElem?_pos, -List.getD_eq_getElem?_getD]) (by simp [-Bool.exists_bool, -Int.not_le, -Int.not_lt, -getElem?_pos, -List.getD_eq_getElem?_getD]) (fun hx => ?_) (fun hx => ?_)
    · simp -implicitDefEqProofs -dsimp +contextual [-Bool.exists_bool, -Int.not_le, -Int.not_lt, -getElem?_pos, -List.getD_eq_getElem?_getD]
      exact ⟨Quiet.of [5] (by kernel_rfl) (by simp [-Bool.exists_bool, -Int.not_le, -Int.not_lt, -getElem?_pos, -List.getD_eq_getElem?_getD, allP, offB]), Quiet.of [] (by kernel_rfl) (by simp [-Bool.exists_bool, -Int.not_le, -Int.not_lt, -getElem?_pos, -List.getD_eq_getElem?_getD, allP, offB]), Quiet.of [] (by kernel_rfl) (by simp [-Bool.exists_bool, -Int.not_le, -Int.not_lt, -getElem?_pos, -List.getD_eq_getElem?_getD, allP, offB]), RLe.pure 3 (by simp [-Bool.exists_bool, -Int.not_le, -Int.not_lt, -getElem?_pos, -List.getD_eq_getElem?_getD, setH])⟩
    · simp -implicitDefEqProofs -dsimp +contextual [-Bool.exists_bool, -Int.not_le, -Int.not_lt, -getElem?_pos, -List.getD_eq_getElem?_getD]
      exact ⟨Quiet.of [5] (by kernel_rfl) (by simp [-Bool.exists_bool, -Int.not_le, -Int.not_lt, -getElem?_pos, -List.getD_eq_getElem?_getD, allP, offB]), Quiet.of [] (by kernel_rfl) (by simp [-Bool.exists_bool, -Int.not_le, -Int.not_lt, -getElem?_pos, -List.getD_eq_getElem?_getD, allP, offB]), Quiet.of [] (by kernel_rfl) (by simp [-Bool.exists_bool, -Int.not_le, -Int.not_lt, -getElem?_pos, -List.getD_eq_getElem?_getD, allP, offB]), RLe.pure 3 (by simp [-Bool.exists_bool, -Int.not_le, -Int.not_lt, -getElem?_pos, -List.getD_eq_getElem?_getD, setH])⟩
  | false =>
    obtain ⟨a, ha, hm⟩ := l2SpoilN cd (drA cd n (anF cd (newC cd)).2).2 0 false hcu h20
    refine ⟨(anF cd (newC cd)).1, a, hx.1, by omega, ?_⟩
    refine Cn.of [0] mixed Tryz.func42 rfl Tryz.call42 (by kernel_rfl) rfl ?_
    simp -implicitDefEqProofs -dsimp +contextual [-Bool.exists_bool, -Int.not_le, -Int.not_lt, -getElem?_pos, -List.getD_eq_getElem?_getD, Tryz.f42]
    refine CallJ.pure hN rfl (by simp [-Bool.exists_bool, -Int.not_le, -Int.not_lt, -getElem?_pos, -List.getD_eq_getElem?_getD]) ?_
    simp -implicitDefEqProofs -dsimp +contextual [-Bool.exists_bool, -Int.not_le, -Int.not_lt, -getElem?_pos, -List.getD_eq_getElem?_getD]
    refine callAny (3, 0) (newC_ok cd) h20 (by simp [-Bool.exists_bool, -Int.not_le, -Int.not_lt, -getElem?_pos, -List.getD_eq_getElem?_getD, setH]) (by simp [-Bool.exists_bool, -Int.not_le, -Int.not_lt, -getElem?_pos, -List.getD_eq_getElem?_getD]) (by simp [-Bool.exists_bool, -Int.not_le, -Int.not_lt, -getElem?_pos, -List.getD_eq_getElem?_getD]) ?_
    generalize anF cd (newC cd) = y at *
    obtain ⟨⟨d, L⟩, c⟩ := y
    simp only at hn hx hr hcu hal
    simp -implicitDefEqProofs -dsimp +contextual [-Bool.exists_bool, -Int.not_le, -Int.not_lt, -getElem?_pos, -List.getD_eq_getElem?_getD, hn]
    refine callDraw n (3, 0) hn5 hx.2 h20 (by simp [-Bool.exists_bool, -Int.not_le, -Int.not_lt, -getElem?_pos, -List.getD_eq_getElem?_getD, setH]) (by simp [-Bool.exists_bool, -Int.not_le, -Int.not_lt, -getElem?_pos, -List.getD_eq_getElem?_getD]) (by simp [-Bool.exists_bool, -Int.not_le, -Int.not_lt, -getElem?_pos, -List.getD_eq_getElem?_getD]) (fun b hb => by rw [hb] at hr; cases hr) (fun h => ?_)
    generalize drA cd n c = y at *
    obtain ⟨r, c2⟩ := y
    simp -implicitDefEqProofs -dsimp +contextual [-Bool.exists_bool, -Int.not_le, -Int.not_lt, -getElem?_pos, -List.getD_eq_getElem?_getD]
    refine ⟨Quiet.of [5] (by kernel_rfl) (by simp [-Bool.exists_bool, -Int.not_le, -Int.not_lt, -getElem?_pos, -List.getD_eq_getElem?_getD, allP, offB]), ?_⟩
    refine callCu2 (3, 0) hm (fun g => rfl) (fun _ => by simp [-Bool.exists_bool, -Int.not_le, -Int.not_lt, -getElem?_pos, -List.getD_eq_getElem?_getD, allKs, allK]) (fun g => rfl) (by simp [-Bool.exists_bool, -Int.not_le, -Int.not_lt, -getElem?_pos, -List.getD_eq_getElem?_getD, setH]) (by simp [-Bool.exists_bool, -Int.not_le, -Int.not_lt, -getElem?_pos, -List.getD_eq_getElem?_getD]) ?_
    simp -implicitDefEqProofs -dsimp +contextual [-Bool.exists_bool, -Int.not_le, -Int.not_lt, -getElem?_pos, -List.getD_eq_getElem?_getD]
    exact ⟨Quiet.of [5] (by kernel_rfl) (by simp [-Bool.exists_bool, -Int.not_le, -Int.not_lt, -getElem?_pos, -List.getD_eq_getElem?_getD, allP, offB]), Quiet.of [] (by kernel_rfl) (by simp [-Bool.exists_bool, -Int.not_le, -Int.not_lt, -getElem?_pos, -List.getD_eq_getElem?_getD, allP, offB]), Quiet.of [] (by kernel_rfl) (by simp [-Bool.exists_bool, -Int.not_le, -Int.not_lt, -getElem?_pos, -List.getD_eq_getElem?_getD, allP, offB]), RLe.pure 3 (by simp [-Bool.exists_bool, -Int.not_le, -Int.not_lt, -getElem?_pos, -List.getD_eq_getElem?_getD, setH])⟩
end Go.Proofs.YtjknjekemolndaaGreat.ZL
namespace Go.Proofs.YtjknjekemolndaaGreat.ZL
open Go Go.Proofs.YtjknjekemolndaaGreat.Abs Go.Proofs.YtjknjekemolndaaGreat.Abs.Pl Go.RowKit Go.Proofs
set_option linter.unusedVariables false
set_option linter.unusedSimpArgs false
set_option linter.unnecessarySimpa false
set_option maxRecDepth 100000
set_option maxHeartbeats 4000000
theorem lawImplied (cd : List Int) (hw : cd.length ≤ maxLen ∧ ∀ y ∈ cd, (Lit.int .u8 y).wf = true) : Cn Tryz.prog 10 [Bs cd] (B true) hemp := by
  refine Cn.of [] mixed Tryz.func10 rfl Tryz.call10 (by kernel_rfl) rfl ?_
  simp -implicitDefEqProofs -dsimp +contextual [-Bool.exists_bool, -Int.not_le, -Int.not_lt, -getElem?_pos, -List.getD_eq_getElem?_getD, Tryz.f10]
  refine CallJ.pure (big cd) rfl (by simp [-Bool.exists_bool, -Int.not_le, -Int.not_lt, -getElem?_pos, -List.getD_eq_getElem?_getD]) ?_
  simp -implicitDefEqProofs -dsimp +contextual [-Bool.exists_bool, -Int.not_le, -Int.not_lt, -getElem?_pos, -List.getD_eq_getElem?_getD]
  refine ⟨fun hb => RLe.bb rfl, fun hb => ?_⟩
  have h20 : cd.length ≤ 1048576 := by omega
  have hby := byts_of hw.2
  obtain ⟨⟨d, L⟩, a, hx, ha, hD⟩ := DrawImpliesAtom cd h20
  refine CallJ.pure hD rfl (by simp [-Bool.exists_bool, -Int.not_le, -Int.not_lt, -getElem?_pos, -List.getD_eq_getElem?_getD]) ?_
  have h100 : L.length ≤ 1048576 := by have := hx.1; simp only at this; omega
  simp -implicitDefEqProofs -dsimp +contextual [-Bool.exists_bool, -Int.not_le, -Int.not_lt, -getElem?_pos, -List.getD_eq_getElem?_getD]
  have fin : ∀ {H : Store}, RLe Tryz.prog H (V.d (D.bool true)) (B true) hemp := RLe.bb rfl
  have hI1 := iImpliesAtom (d, L) a h100 (by omega)
  have hI2 := ImpliesAtom (d, L) a h100 (by omega)
  have hAm := among cd d [(d, L)] hby h20 (by simp [-Bool.exists_bool, -Int.not_le, -Int.not_lt, -getElem?_pos, -List.getD_eq_getElem?_getD]) (by intro c hc; rw [List.mem_singleton.1 hc]; exact h100)
  have hC := iInCell d L (amF cd d [(d, L)]) h100 (by have := amF_len (cd := cd) d L; omega)
  have hH := iHoldsAt a (amF cd d [(d, L)]) (by have := amF_len (cd := cd) d L; omega)
  have f1 := fun h h' => imp_in (c := (d, L)) (a := a) (p := amF cd d [(d, L)]) h h'
  have f2 := @impA_f (d, L) a
  generalize impA (d, L) a = x at *
  generalize amF cd d [(d, L)] = p at *
  generalize inI d L p = q at *
  generalize holdI a p = k at *
  obtain ⟨x1, x2⟩ := x
  obtain ⟨q1, q2⟩ := q
  obtain ⟨k1, k2⟩ := k
  simp only at f1 f2
  refine CallJ.pure hI1 rfl (by simp [-Bool.exists_bool, -Int.not_le, -Int.not_lt, -getElem?_pos, -List.getD_eq_getElem?_getD]) ?_
  simp -implicitDefEqProofs -dsimp +contextual [-Bool.exists_bool, -Int.not_le, -Int.not_lt, -getElem?_pos, -List.getD_eq_getElem?_getD]
  refine CallJ.pure hI2 rfl (by simp [-Bool.exists_bool, -Int.not_le, -Int.not_lt, -getElem?_pos, -List.getD_eq_getElem?_getD]) ?_
  simp -implicitDefEqProofs -dsimp +contextual [-Bool.exists_bool, -Int.not_le, -Int.not_lt, -getElem?_pos, -List.getD_eq_getElem?_getD]
  refine CallJ.pure hAm rfl (by simp [-Bool.exists_bool, -Int.not_le, -Int.not_lt, -getElem?_pos, -List.getD_eq_getElem?_getD]) ?_
  simp -implicitDefEqProofs -dsimp +contextual [-Bool.exists_bool, -Int.not_le, -Int.not_lt, -getElem?_pos, -List.getD_eq_getElem?_getD]
  refine CallJ.pure hC rfl (by simp [-Bool.exists_bool, -Int.not_le, -Int.not_lt, -getElem?_pos, -List.getD_eq_getElem?_getD]) ?_
  simp -implicitDefEqProofs -dsimp +contextual [-Bool.exists_bool, -Int.not_le, -Int.not_lt, -getElem?_pos, -List.getD_eq_getElem?_getD]
  have hT := DrawCoversCell cd h20
  have hs := twF_ok cd
  have hcv := cvF_ok cd
  generalize twF cd = y at *
  generalize cvF cd = w at *
  obtain ⟨⟨a1, a2⟩, u⟩ := y
  obtain ⟨w1, w2⟩ := w
  have h1 := hs.1.1
  simp only at h1 hcv hT
  have hC1 := iCoversCell (a1, a2) (w1, w2) (by simp only; omega) hcv
  have hM := iMeetCellsW (a1, a2) (w1, w2) (by simp only; omega) hcv
  have hC2 := iCoversCell ((meetC (a1, a2) (w1, w2)).1, (meetC (a1, a2) (w1, w2)).2.1) (w1, w2) (Nat.le_trans meetC_16 (by omega)) hcv
  have hcm := @cov_meet (a1, a2) (w1, w2)
  generalize covC ((meetC (a1, a2) (w1, w2)).1, (meetC (a1, a2) (w1, w2)).2.1) (w1, w2) = z at *
  generalize meetC (a1, a2) (w1, w2) = m at *
  generalize covC (a1, a2) (w1, w2) = y at *
  obtain ⟨y1, y2⟩ := y
  obtain ⟨m1, m2, m3⟩ := m
  obtain ⟨z1, z2⟩ := z
  simp only at hcm
  have htri : y2 = false ∨ m3 = false ∨ z2 = false ∨ (y2 = true ∧ m3 = true ∧ z2 = true ∧ y1 = z1) := by
    cases y2
    · exact .inl rfl
    · cases m3
      · exact .inr (.inl rfl)
      · cases z2
        · exact .inr (.inr (.inl rfl))
        · exact .inr (.inr (.inr ⟨rfl, rfl, rfl, hcm rfl rfl rfl⟩))
  cases x2
  · obtain rfl := f2 (by simp [-Bool.exists_bool, -Int.not_le, -Int.not_lt, -getElem?_pos, -List.getD_eq_getElem?_getD])
    refine CallJ.pure hH rfl (by simp [-Bool.exists_bool, -Int.not_le, -Int.not_lt, -getElem?_pos, -List.getD_eq_getElem?_getD]) ?_
    simp -implicitDefEqProofs -dsimp +contextual [-Bool.exists_bool, -Int.not_le, -Int.not_lt, -getElem?_pos, -List.getD_eq_getElem?_getD]
    refine CallJ.pure hT rfl (by simp [-Bool.exists_bool, -Int.not_le, -Int.not_lt, -getElem?_pos, -List.getD_eq_getElem?_getD]) ?_
    simp -implicitDefEqProofs -dsimp +contextual [-Bool.exists_bool, -Int.not_le, -Int.not_lt, -getElem?_pos, -List.getD_eq_getElem?_getD]
    refine CallJ.pure hC1 rfl (by simp [-Bool.exists_bool, -Int.not_le, -Int.not_lt, -getElem?_pos, -List.getD_eq_getElem?_getD]) ?_
    simp -implicitDefEqProofs -dsimp +contextual [-Bool.exists_bool, -Int.not_le, -Int.not_lt, -getElem?_pos, -List.getD_eq_getElem?_getD]
    refine CallJ.pure hM rfl (by simp [-Bool.exists_bool, -Int.not_le, -Int.not_lt, -getElem?_pos, -List.getD_eq_getElem?_getD]) ?_
    simp -implicitDefEqProofs -dsimp +contextual [-Bool.exists_bool, -Int.not_le, -Int.not_lt, -getElem?_pos, -List.getD_eq_getElem?_getD]
    refine CallJ.pure hC2 rfl (by simp [-Bool.exists_bool, -Int.not_le, -Int.not_lt, -getElem?_pos, -List.getD_eq_getElem?_getD]) ?_
    rcases htri with rfl | rfl | rfl | ⟨rfl, rfl, rfl, rfl⟩
    · simp -implicitDefEqProofs -dsimp +contextual [-Bool.exists_bool, -Int.not_le, -Int.not_lt, -getElem?_pos, -List.getD_eq_getElem?_getD]
      exact fin
    · cases y2
      · simp -implicitDefEqProofs -dsimp +contextual [-Bool.exists_bool, -Int.not_le, -Int.not_lt, -getElem?_pos, -List.getD_eq_getElem?_getD]
        exact fin
      · simp -implicitDefEqProofs -dsimp +contextual [-Bool.exists_bool, -Int.not_le, -Int.not_lt, -getElem?_pos, -List.getD_eq_getElem?_getD]
        exact fin
    · cases y2
      · simp -implicitDefEqProofs -dsimp +contextual [-Bool.exists_bool, -Int.not_le, -Int.not_lt, -getElem?_pos, -List.getD_eq_getElem?_getD]
        exact fin
      · cases m3
        · simp -implicitDefEqProofs -dsimp +contextual [-Bool.exists_bool, -Int.not_le, -Int.not_lt, -getElem?_pos, -List.getD_eq_getElem?_getD]
          exact fin
        · simp -implicitDefEqProofs -dsimp +contextual [-Bool.exists_bool, -Int.not_le, -Int.not_lt, -getElem?_pos, -List.getD_eq_getElem?_getD]
          exact fin
    · simp -implicitDefEqProofs -dsimp +contextual [-Bool.exists_bool, -Int.not_le, -Int.not_lt, -getElem?_pos, -List.getD_eq_getElem?_getD]
      exact fin
  · cases x1
    · refine CallJ.pure hH rfl (by simp [-Bool.exists_bool, -Int.not_le, -Int.not_lt, -getElem?_pos, -List.getD_eq_getElem?_getD]) ?_
      simp -implicitDefEqProofs -dsimp +contextual [-Bool.exists_bool, -Int.not_le, -Int.not_lt, -getElem?_pos, -List.getD_eq_getElem?_getD]
      refine CallJ.pure hT rfl (by simp [-Bool.exists_bool, -Int.not_le, -Int.not_lt, -getElem?_pos, -List.getD_eq_getElem?_getD]) ?_
      simp -implicitDefEqProofs -dsimp +contextual [-Bool.exists_bool, -Int.not_le, -Int.not_lt, -getElem?_pos, -List.getD_eq_getElem?_getD]
      refine CallJ.pure hC1 rfl (by simp [-Bool.exists_bool, -Int.not_le, -Int.not_lt, -getElem?_pos, -List.getD_eq_getElem?_getD]) ?_
      simp -implicitDefEqProofs -dsimp +contextual [-Bool.exists_bool, -Int.not_le, -Int.not_lt, -getElem?_pos, -List.getD_eq_getElem?_getD]
      refine CallJ.pure hM rfl (by simp [-Bool.exists_bool, -Int.not_le, -Int.not_lt, -getElem?_pos, -List.getD_eq_getElem?_getD]) ?_
      simp -implicitDefEqProofs -dsimp +contextual [-Bool.exists_bool, -Int.not_le, -Int.not_lt, -getElem?_pos, -List.getD_eq_getElem?_getD]
      refine CallJ.pure hC2 rfl (by simp [-Bool.exists_bool, -Int.not_le, -Int.not_lt, -getElem?_pos, -List.getD_eq_getElem?_getD]) ?_
      rcases htri with rfl | rfl | rfl | ⟨rfl, rfl, rfl, rfl⟩
      · simp -implicitDefEqProofs -dsimp +contextual [-Bool.exists_bool, -Int.not_le, -Int.not_lt, -getElem?_pos, -List.getD_eq_getElem?_getD]
        exact fin
      · cases y2
        · simp -implicitDefEqProofs -dsimp +contextual [-Bool.exists_bool, -Int.not_le, -Int.not_lt, -getElem?_pos, -List.getD_eq_getElem?_getD]
          exact fin
        · simp -implicitDefEqProofs -dsimp +contextual [-Bool.exists_bool, -Int.not_le, -Int.not_lt, -getElem?_pos, -List.getD_eq_getElem?_getD]
          exact fin
      · cases y2
        · simp -implicitDefEqProofs -dsimp +contextual [-Bool.exists_bool, -Int.not_le, -Int.not_lt, -getElem?_pos, -List.getD_eq_getElem?_getD]
          exact fin
        · cases m3
          · simp -implicitDefEqProofs -dsimp +contextual [-Bool.exists_bool, -Int.not_le, -Int.not_lt, -getElem?_pos, -List.getD_eq_getElem?_getD]
            exact fin
          · simp -implicitDefEqProofs -dsimp +contextual [-Bool.exists_bool, -Int.not_le, -Int.not_lt, -getElem?_pos, -List.getD_eq_getElem?_getD]
            exact fin
      · simp -implicitDefEqProofs -dsimp +contextual [-Bool.exists_bool, -Int.not_le, -Int.not_lt, -getElem?_pos, -List.getD_eq_getElem?_getD]
        exact fin
    · cases q2
      · refine CallJ.pure hH rfl (by simp [-Bool.exists_bool, -Int.not_le, -Int.not_lt, -getElem?_pos, -List.getD_eq_getElem?_getD]) ?_
        simp -implicitDefEqProofs -dsimp +contextual [-Bool.exists_bool, -Int.not_le, -Int.not_lt, -getElem?_pos, -List.getD_eq_getElem?_getD]
        refine CallJ.pure hT rfl (by simp [-Bool.exists_bool, -Int.not_le, -Int.not_lt, -getElem?_pos, -List.getD_eq_getElem?_getD]) ?_
        simp -implicitDefEqProofs -dsimp +contextual [-Bool.exists_bool, -Int.not_le, -Int.not_lt, -getElem?_pos, -List.getD_eq_getElem?_getD]
        refine CallJ.pure hC1 rfl (by simp [-Bool.exists_bool, -Int.not_le, -Int.not_lt, -getElem?_pos, -List.getD_eq_getElem?_getD]) ?_
        simp -implicitDefEqProofs -dsimp +contextual [-Bool.exists_bool, -Int.not_le, -Int.not_lt, -getElem?_pos, -List.getD_eq_getElem?_getD]
        refine CallJ.pure hM rfl (by simp [-Bool.exists_bool, -Int.not_le, -Int.not_lt, -getElem?_pos, -List.getD_eq_getElem?_getD]) ?_
        simp -implicitDefEqProofs -dsimp +contextual [-Bool.exists_bool, -Int.not_le, -Int.not_lt, -getElem?_pos, -List.getD_eq_getElem?_getD]
        refine CallJ.pure hC2 rfl (by simp [-Bool.exists_bool, -Int.not_le, -Int.not_lt, -getElem?_pos, -List.getD_eq_getElem?_getD]) ?_
        rcases htri with rfl | rfl | rfl | ⟨rfl, rfl, rfl, rfl⟩
        · simp -implicitDefEqProofs -dsimp +contextual [-Bool.exists_bool, -Int.not_le, -Int.not_lt, -getElem?_pos, -List.getD_eq_getElem?_getD]
          exact fin
        · cases y2
          · simp -implicitDefEqProofs -dsimp +contextual [-Bool.exists_bool, -Int.not_le, -Int.not_lt, -getElem?_pos, -List.getD_eq_getElem?_getD]
            exact fin
          · simp -implicitDefEqProofs -dsimp +contextual [-Bool.exists_bool, -Int.not_le, -Int.not_lt, -getElem?_pos, -List.getD_eq_getElem?_getD]
            exact fin
        · cases y2
          · simp -implicitDefEqProofs -dsimp +contextual [-Bool.exists_bool, -Int.not_le, -Int.not_lt, -getElem?_pos, -List.getD_eq_getElem?_getD]
            exact fin
          · cases m3
            · simp -implicitDefEqProofs -dsimp +contextual [-Bool.exists_bool, -Int.not_le, -Int.not_lt, -getElem?_pos, -List.getD_eq_getElem?_getD]
              exact fin
            · simp -implicitDefEqProofs -dsimp +contextual [-Bool.exists_bool, -Int.not_le, -Int.not_lt, -getElem?_pos, -List.getD_eq_getElem?_getD]
              exact fin
        · simp -implicitDefEqProofs -dsimp +contextual [-Bool.exists_bool, -Int.not_le, -Int.not_lt, -getElem?_pos, -List.getD_eq_getElem?_getD]
          exact fin
      · cases k2
        · refine CallJ.pure hH rfl (by simp [-Bool.exists_bool, -Int.not_le, -Int.not_lt, -getElem?_pos, -List.getD_eq_getElem?_getD]) ?_
          simp -implicitDefEqProofs -dsimp +contextual [-Bool.exists_bool, -Int.not_le, -Int.not_lt, -getElem?_pos, -List.getD_eq_getElem?_getD]
          refine CallJ.pure hT rfl (by simp [-Bool.exists_bool, -Int.not_le, -Int.not_lt, -getElem?_pos, -List.getD_eq_getElem?_getD]) ?_
          simp -implicitDefEqProofs -dsimp +contextual [-Bool.exists_bool, -Int.not_le, -Int.not_lt, -getElem?_pos, -List.getD_eq_getElem?_getD]
          refine CallJ.pure hC1 rfl (by simp [-Bool.exists_bool, -Int.not_le, -Int.not_lt, -getElem?_pos, -List.getD_eq_getElem?_getD]) ?_
          simp -implicitDefEqProofs -dsimp +contextual [-Bool.exists_bool, -Int.not_le, -Int.not_lt, -getElem?_pos, -List.getD_eq_getElem?_getD]
          refine CallJ.pure hM rfl (by simp [-Bool.exists_bool, -Int.not_le, -Int.not_lt, -getElem?_pos, -List.getD_eq_getElem?_getD]) ?_
          simp -implicitDefEqProofs -dsimp +contextual [-Bool.exists_bool, -Int.not_le, -Int.not_lt, -getElem?_pos, -List.getD_eq_getElem?_getD]
          refine CallJ.pure hC2 rfl (by simp [-Bool.exists_bool, -Int.not_le, -Int.not_lt, -getElem?_pos, -List.getD_eq_getElem?_getD]) ?_
          rcases htri with rfl | rfl | rfl | ⟨rfl, rfl, rfl, rfl⟩
          · simp -implicitDefEqProofs -dsimp +contextual [-Bool.exists_bool, -Int.not_le, -Int.not_lt, -getElem?_pos, -List.getD_eq_getElem?_getD]
            exact fin
          · cases y2
            · simp -implicitDefEqProofs -dsimp +contextual [-Bool.exists_bool, -Int.not_le, -Int.not_lt, -getElem?_pos, -List.getD_eq_getElem?_getD]
              exact fin
            · simp -implicitDefEqProofs -dsimp +contextual [-Bool.exists_bool, -Int.not_le, -Int.not_lt, -getElem?_pos, -List.getD_eq_getElem?_getD]
              exact fin
          · cases y2
            · simp -implicitDefEqProofs -dsimp +contextual [-Bool.exists_bool, -Int.not_le, -Int.not_lt, -getElem?_pos, -List.getD_eq_getElem?_getD]
              exact fin
            · cases m3
              · simp -implicitDefEqProofs -dsimp +contextual [-Bool.exists_bool, -Int.not_le, -Int.not_lt, -getElem?_pos, -List.getD_eq_getElem?_getD]
                exact fin
              · simp -implicitDefEqProofs -dsimp +contextual [-Bool.exists_bool, -Int.not_le, -Int.not_lt, -getElem?_pos, -List.getD_eq_getElem?_getD]
                exact fin
          · simp -implicitDefEqProofs -dsimp +contextual [-Bool.exists_bool, -Int.not_le, -Int.not_lt, -getElem?_pos, -List.getD_eq_getElem?_getD]
            exact fin
        · cases q1
          · refine CallJ.pure hH rfl (by simp [-Bool.exists_bool, -Int.not_le, -Int.not_lt, -getElem?_pos, -List.getD_eq_getElem?_getD]) ?_
            simp -implicitDefEqProofs -dsimp +contextual [-Bool.exists_bool, -Int.not_le, -Int.not_lt, -getElem?_pos, -List.getD_eq_getElem?_getD]
            refine CallJ.pure hT rfl (by simp [-Bool.exists_bool, -Int.not_le, -Int.not_lt, -getElem?_pos, -List.getD_eq_getElem?_getD]) ?_
            simp -implicitDefEqProofs -dsimp +contextual [-Bool.exists_bool, -Int.not_le, -Int.not_lt, -getElem?_pos, -List.getD_eq_getElem?_getD]
            refine CallJ.pure hC1 rfl (by simp [-Bool.exists_bool, -Int.not_le, -Int.not_lt, -getElem?_pos, -List.getD_eq_getElem?_getD]) ?_
            simp -implicitDefEqProofs -dsimp +contextual [-Bool.exists_bool, -Int.not_le, -Int.not_lt, -getElem?_pos, -List.getD_eq_getElem?_getD]
            refine CallJ.pure hM rfl (by simp [-Bool.exists_bool, -Int.not_le, -Int.not_lt, -getElem?_pos, -List.getD_eq_getElem?_getD]) ?_
            simp -implicitDefEqProofs -dsimp +contextual [-Bool.exists_bool, -Int.not_le, -Int.not_lt, -getElem?_pos, -List.getD_eq_getElem?_getD]
            refine CallJ.pure hC2 rfl (by simp [-Bool.exists_bool, -Int.not_le, -Int.not_lt, -getElem?_pos, -List.getD_eq_getElem?_getD]) ?_
            rcases htri with rfl | rfl | rfl | ⟨rfl, rfl, rfl, rfl⟩
            · simp -implicitDefEqProofs -dsimp +contextual [-Bool.exists_bool, -Int.not_le, -Int.not_lt, -getElem?_pos, -List.getD_eq_getElem?_getD]
              exact fin
            · cases y2
              · simp -implicitDefEqProofs -dsimp +contextual [-Bool.exists_bool, -Int.not_le, -Int.not_lt, -getElem?_pos, -List.getD_eq_getElem?_getD]
                exact fin
              · simp -implicitDefEqProofs -dsimp +contextual [-Bool.exists_bool, -Int.not_le, -Int.not_lt, -getElem?_pos, -List.getD_eq_getElem?_getD]
                exact fin
            · cases y2
              · simp -implicitDefEqProofs -dsimp +contextual [-Bool.exists_bool, -Int.not_le, -Int.not_lt, -getElem?_pos, -List.getD_eq_getElem?_getD]
                exact fin
              · cases m3
                · simp -implicitDefEqProofs -dsimp +contextual [-Bool.exists_bool, -Int.not_le, -Int.not_lt, -getElem?_pos, -List.getD_eq_getElem?_getD]
                  exact fin
                · simp -implicitDefEqProofs -dsimp +contextual [-Bool.exists_bool, -Int.not_le, -Int.not_lt, -getElem?_pos, -List.getD_eq_getElem?_getD]
                  exact fin
            · simp -implicitDefEqProofs -dsimp +contextual [-Bool.exists_bool, -Int.not_le, -Int.not_lt, -getElem?_pos, -List.getD_eq_getElem?_getD]
              exact fin
          · obtain rfl := f1 rfl rfl rfl rfl rfl
            refine CallJ.pure hH rfl (by simp [-Bool.exists_bool, -Int.not_le, -Int.not_lt, -getElem?_pos, -List.getD_eq_getElem?_getD]) ?_
            simp -implicitDefEqProofs -dsimp +contextual [-Bool.exists_bool, -Int.not_le, -Int.not_lt, -getElem?_pos, -List.getD_eq_getElem?_getD]
            refine CallJ.pure hT rfl (by simp [-Bool.exists_bool, -Int.not_le, -Int.not_lt, -getElem?_pos, -List.getD_eq_getElem?_getD]) ?_
            simp -implicitDefEqProofs -dsimp +contextual [-Bool.exists_bool, -Int.not_le, -Int.not_lt, -getElem?_pos, -List.getD_eq_getElem?_getD]
            refine CallJ.pure hC1 rfl (by simp [-Bool.exists_bool, -Int.not_le, -Int.not_lt, -getElem?_pos, -List.getD_eq_getElem?_getD]) ?_
            simp -implicitDefEqProofs -dsimp +contextual [-Bool.exists_bool, -Int.not_le, -Int.not_lt, -getElem?_pos, -List.getD_eq_getElem?_getD]
            refine CallJ.pure hM rfl (by simp [-Bool.exists_bool, -Int.not_le, -Int.not_lt, -getElem?_pos, -List.getD_eq_getElem?_getD]) ?_
            simp -implicitDefEqProofs -dsimp +contextual [-Bool.exists_bool, -Int.not_le, -Int.not_lt, -getElem?_pos, -List.getD_eq_getElem?_getD]
            refine CallJ.pure hC2 rfl (by simp [-Bool.exists_bool, -Int.not_le, -Int.not_lt, -getElem?_pos, -List.getD_eq_getElem?_getD]) ?_
            rcases htri with rfl | rfl | rfl | ⟨rfl, rfl, rfl, rfl⟩
            · simp -implicitDefEqProofs -dsimp +contextual [-Bool.exists_bool, -Int.not_le, -Int.not_lt, -getElem?_pos, -List.getD_eq_getElem?_getD]
              exact fin
            · cases y2
              · simp -implicitDefEqProofs -dsimp +contextual [-Bool.exists_bool, -Int.not_le, -Int.not_lt, -getElem?_pos, -List.getD_eq_getElem?_getD]
                exact fin
              · simp -implicitDefEqProofs -dsimp +contextual [-Bool.exists_bool, -Int.not_le, -Int.not_lt, -getElem?_pos, -List.getD_eq_getElem?_getD]
                exact fin
            · cases y2
              · simp -implicitDefEqProofs -dsimp +contextual [-Bool.exists_bool, -Int.not_le, -Int.not_lt, -getElem?_pos, -List.getD_eq_getElem?_getD]
                exact fin
              · cases m3
                · simp -implicitDefEqProofs -dsimp +contextual [-Bool.exists_bool, -Int.not_le, -Int.not_lt, -getElem?_pos, -List.getD_eq_getElem?_getD]
                  exact fin
                · simp -implicitDefEqProofs -dsimp +contextual [-Bool.exists_bool, -Int.not_le, -Int.not_lt, -getElem?_pos, -List.getD_eq_getElem?_getD]
                  exact fin
            · simp -implicitDefEqProofs -dsimp +contextual [-Bool.exists_bool, -Int.not_le, -Int.not_lt, -getElem?_pos, -List.getD_eq_getElem?_getD]
              exact fin
end Go.Proofs.YtjknjekemolndaaGreat.ZL
