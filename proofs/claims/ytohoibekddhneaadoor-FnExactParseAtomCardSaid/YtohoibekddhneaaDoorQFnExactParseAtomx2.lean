/- The functions that the law FnExactParseAtom reaches, each as a Lean function with the same answers, and the proof that the call comes to exactly these: turned by program out of the printed texts. No condition but those that each theorem names. -/
import Derived.Test.YtohoibekddhneaaDoorQFnExactParseAtomx0
import Derived.Test.YtohoibekddhneaaDoorQFnExactParseAtomx1
namespace Go.Proofs.YtohoibekddhneaaDoor.PFnExactParseAtom
open Go.RowKit Go.Proofs.YtohoibekddhneaaDoorW.PrintWords Go.Proofs.YtohoibekddhneaaDoorW.PrintLast Go.Proofs.YtohoibekddhneaaDoorW.PrintMore
attribute [local go_sem] max2_int min2_int max_two min_two max_three min_three max_four min_four   -- for this text's walks alone
set_option linter.unusedVariables false
set_option linter.unusedSimpArgs false

/-! ### spec_ParseAtom: function 40 -/
mutual
def spec_ParseAtom.j0 : Nat → ByteArray → Int → Bool → Option (List Int × Int × Bool × Bool)
 | 0, _, _, _ => none
 | k + 1, x0, x1, x20 => if x20 = true then (some (([] : List Int), 0, false, false)) else (if 0 ≤ x1 then (if (x1 : Int).toNat ≤ 35184372088832 then (spec_ParseAtom.l0 k x0 x1 0 1 false 0 (List.replicate (x1 : Int).toNat 0) 0 false) else (none)) else (none))
def spec_ParseAtom.l0 : Nat → ByteArray → Int → Int → Int → Bool → Int → List Int → Int → Bool → Option (List Int × Int × Bool × Bool)
 | 0, _, _, _, _, _, _, _, _, _ => none
 | k + 1, x0, x1, x7, x8, x9, x10, x126000, x126001, x126002 => if x10 < (x0.size : Int) then (if 0 ≤ x10 then (spec_ParseAtom.j2 k x0 x1 x7 x8 x9 x10 ((bt x0 x10) != 60) x126000 x126001 x126002) else (none)) else (spec_ParseAtom.j2 k x0 x1 x7 x8 x9 x10 false x126000 x126001 x126002)
def spec_ParseAtom.j2 : Nat → ByteArray → Int → Int → Int → Bool → Int → Bool → List Int → Int → Bool → Option (List Int × Int × Bool × Bool)
 | 0, _, _, _, _, _, _, _, _, _, _ => none
 | k + 1, x0, x1, x7, x8, x9, x10, x34, x126000, x126001, x126002 => if x34 = true then (spec_ParseAtom.l1 k x0 x1 x7 x8 x9 x10 (-1) 0 x126000 x126001 x126002) else (if x9 = true then (if (x0.size : Int) > 2 then (if 0 ≤ (wrap64 ((x0.size : Int) - 2)) then (if (wrap64 ((x0.size : Int) - 2)) < (x0.size : Int) then ((spec_FormatAtom.f k x126000 (wrap64 (x8 * x7)) ((bt x0 (wrap64 ((x0.size : Int) - 2))) == 60)).bind fun qs => (if qs.toList = x0.toList then (some (x126000, wrap64 (x8 * x7), ((bt x0 (wrap64 ((x0.size : Int) - 2))) == 60), true)) else (some (([] : List Int), 0, false, false)))) else (none)) else (none)) else ((spec_FormatAtom.f k x126000 (wrap64 (x8 * x7)) false).bind fun qI => (if qI.toList = x0.toList then (some (x126000, wrap64 (x8 * x7), false, true)) else (some (([] : List Int), 0, false, false))))) else (if (x0.size : Int) > 2 then (if 0 ≤ (wrap64 ((x0.size : Int) - 2)) then (if (wrap64 ((x0.size : Int) - 2)) < (x0.size : Int) then ((spec_FormatAtom.f k x126000 x126001 ((bt x0 (wrap64 ((x0.size : Int) - 2))) == 60)).bind fun qt => (if qt.toList = x0.toList then (some (x126000, x126001, ((bt x0 (wrap64 ((x0.size : Int) - 2))) == 60), true)) else (some (([] : List Int), 0, false, false)))) else (none)) else (none)) else ((spec_FormatAtom.f k x126000 x126001 false).bind fun qJ => (if qJ.toList = x0.toList then (some (x126000, x126001, false, true)) else (some (([] : List Int), 0, false, false))))))
def spec_ParseAtom.l1 : Nat → ByteArray → Int → Int → Int → Bool → Int → Int → Int → List Int → Int → Bool → Option (List Int × Int × Bool × Bool)
 | 0, _, _, _, _, _, _, _, _, _, _, _ => none
 | k + 1, x0, x1, x7, x8, x9, x10, x11, x12, x126000, x126001, x126002 => if x12 < x1 then (if 0 ≤ x10 then (if x10 < (x0.size : Int) then (if 0 ≤ x12 then (if x12 < 4 then (if (bt x0 x10) = (bt (⟨#[120, 121, 122, 116]⟩ : ByteArray) x12) then (spec_ParseAtom.l1 k x0 x1 x7 x8 x9 x10 x12 (wrap64 (x12 + 1)) x126000 x126001 x126002) else (spec_ParseAtom.l1 k x0 x1 x7 x8 x9 x10 x11 (wrap64 (x12 + 1)) x126000 x126001 x126002)) else (none)) else (none)) else (none)) else (none)) else (if 0 ≤ x10 then (if x10 < (x0.size : Int) then (if (bt x0 x10) = 43 then (spec_ParseAtom.j4 k x0 x1 x7 x8 x9 x10 x11 true x126000 x126001 x126002) else (spec_ParseAtom.j4 k x0 x1 x7 x8 x9 x10 x11 ((bt x0 x10) == 45) x126000 x126001 x126002)) else (none)) else (none))
def spec_ParseAtom.j4 : Nat → ByteArray → Int → Int → Int → Bool → Int → Int → Bool → List Int → Int → Bool → Option (List Int × Int × Bool × Bool)
 | 0, _, _, _, _, _, _, _, _, _, _, _ => none
 | k + 1, x0, x1, x7, x8, x9, x10, x11, x49, x126000, x126001, x126002 => if x49 = true then (if x9 = true then (if 0 ≤ x10 then (if x10 < (x0.size : Int) then (if (bt x0 x10) = 45 then (spec_ParseAtom.l0 k x0 x1 0 (-1) false (wrap64 (x10 + 1)) x126000 (wrap64 (x8 * x7)) x126002) else (spec_ParseAtom.l0 k x0 x1 0 1 false (wrap64 (x10 + 1)) x126000 (wrap64 (x8 * x7)) x126002)) else (none)) else (none)) else (if 0 ≤ x10 then (if x10 < (x0.size : Int) then (if (bt x0 x10) = 45 then (spec_ParseAtom.l0 k x0 x1 0 (-1) false (wrap64 (x10 + 1)) x126000 x126001 x126002) else (spec_ParseAtom.l0 k x0 x1 0 1 false (wrap64 (x10 + 1)) x126000 x126001 x126002)) else (none)) else (none))) else (if 0 ≤ x10 then (if x10 < (x0.size : Int) then (if (bt x0 x10) ≥ 48 then (spec_ParseAtom.j5 k x0 x1 x7 x8 x9 x10 x11 (decide ((bt x0 x10) ≤ 57)) x126000 x126001 x126002) else (spec_ParseAtom.j5 k x0 x1 x7 x8 x9 x10 x11 false x126000 x126001 x126002)) else (none)) else (none))
def spec_ParseAtom.j5 : Nat → ByteArray → Int → Int → Int → Bool → Int → Int → Bool → List Int → Int → Bool → Option (List Int × Int × Bool × Bool)
 | 0, _, _, _, _, _, _, _, _, _, _, _ => none
 | k + 1, x0, x1, x7, x8, x9, x10, x11, x69, x126000, x126001, x126002 => if x69 = true then (if 0 ≤ x10 then (if x10 < (x0.size : Int) then (spec_ParseAtom.l0 k x0 x1 (mn (wrap64 ((wrap64 (x7 * 10)) + (((bt x0 x10) - 48) % 256))) 800000000) x8 true (wrap64 (x10 + 1)) x126000 x126001 x126002) else (none)) else (none)) else (if x11 ≥ 0 then (if x9 = true then (if 0 ≤ x11 then (if x11 < (x126000.length : Int) then (spec_ParseAtom.l0 k x0 x1 0 x8 false (wrap64 (x10 + 1)) (x126000.set (x11 : Int).toNat (wrap64 (x8 * x7))) x126001 x126002) else (none)) else (none)) else (if 0 ≤ x11 then (if x11 < (x126000.length : Int) then (spec_ParseAtom.l0 k x0 x1 0 x8 false (wrap64 (x10 + 1)) (x126000.set (x11 : Int).toNat (wrap64 (x8 * 1))) x126001 x126002) else (none)) else (none))) else (spec_ParseAtom.l0 k x0 x1 x7 x8 x9 (wrap64 (x10 + 1)) x126000 x126001 x126002))
end
def spec_ParseAtom.f (k : Nat) (a0 : ByteArray) (a1 : Int) : Option (List Int × Int × Bool × Bool) := (spec_l1In.f a1 0 4).bind fun ju => (if ju = true then (spec_ParseAtom.j0 k a0 a1 (decide ((a0.size : Int) > 80))) else (spec_ParseAtom.j0 k a0 a1 true))
theorem spec_ParseAtom.mono_l : ∀ k, (∀ y0 y1 y2, LeO (spec_ParseAtom.j0 k y0 y1 y2) (spec_ParseAtom.j0 (k + 1) y0 y1 y2)) ∧ (∀ y0 y1 y2 y3 y4 y5 y6 y7 y8, LeO (spec_ParseAtom.l0 k y0 y1 y2 y3 y4 y5 y6 y7 y8) (spec_ParseAtom.l0 (k + 1) y0 y1 y2 y3 y4 y5 y6 y7 y8)) ∧ (∀ y0 y1 y2 y3 y4 y5 y6 y7 y8 y9, LeO (spec_ParseAtom.j2 k y0 y1 y2 y3 y4 y5 y6 y7 y8 y9) (spec_ParseAtom.j2 (k + 1) y0 y1 y2 y3 y4 y5 y6 y7 y8 y9)) ∧ (∀ y0 y1 y2 y3 y4 y5 y6 y7 y8 y9 y10, LeO (spec_ParseAtom.l1 k y0 y1 y2 y3 y4 y5 y6 y7 y8 y9 y10) (spec_ParseAtom.l1 (k + 1) y0 y1 y2 y3 y4 y5 y6 y7 y8 y9 y10)) ∧ (∀ y0 y1 y2 y3 y4 y5 y6 y7 y8 y9 y10, LeO (spec_ParseAtom.j4 k y0 y1 y2 y3 y4 y5 y6 y7 y8 y9 y10) (spec_ParseAtom.j4 (k + 1) y0 y1 y2 y3 y4 y5 y6 y7 y8 y9 y10)) ∧ (∀ y0 y1 y2 y3 y4 y5 y6 y7 y8 y9 y10, LeO (spec_ParseAtom.j5 k y0 y1 y2 y3 y4 y5 y6 y7 y8 y9 y10) (spec_ParseAtom.j5 (k + 1) y0 y1 y2 y3 y4 y5 y6 y7 y8 y9 y10))
 | 0 => ⟨fun _ _ _ r h => by simp [spec_ParseAtom.j0] at h, fun _ _ _ _ _ _ _ _ _ r h => by simp [spec_ParseAtom.l0] at h, fun _ _ _ _ _ _ _ _ _ _ r h => by simp [spec_ParseAtom.j2] at h, fun _ _ _ _ _ _ _ _ _ _ _ r h => by simp [spec_ParseAtom.l1] at h, fun _ _ _ _ _ _ _ _ _ _ _ r h => by simp [spec_ParseAtom.j4] at h, fun _ _ _ _ _ _ _ _ _ _ _ r h => by simp [spec_ParseAtom.j5] at h⟩
 | k + 1 => by
  obtain ⟨ih0, ih1, ih2, ih3, ih4, ih5⟩ := spec_ParseAtom.mono_l k
  refine ⟨?_, ?_, ?_, ?_, ?_, ?_⟩
  ·
   intro y0 y1 y2
   unfold spec_ParseAtom.j0
   repeat' first
   | (with_reducible exact ih0 _ _ _)
   | (with_reducible exact ih1 _ _ _ _ _ _ _ _ _)
   | (with_reducible exact ih2 _ _ _ _ _ _ _ _ _ _)
   | (with_reducible exact ih3 _ _ _ _ _ _ _ _ _ _ _)
   | (with_reducible exact ih4 _ _ _ _ _ _ _ _ _ _ _)
   | (with_reducible exact ih5 _ _ _ _ _ _ _ _ _ _ _)
   | (with_reducible exact spec_FormatAtom.mono _ _ _ _)
   | (with_reducible exact LeO.refl _)
   | (with_reducible exact LeO.none _)
   | (with_reducible refine LeO.ite ?_ ?_)
   | (with_reducible refine LeO.bind ?_ (fun _ => ?_))
   | exact ih0 _ _ _
   | exact ih1 _ _ _ _ _ _ _ _ _
   | exact ih2 _ _ _ _ _ _ _ _ _ _
   | exact ih3 _ _ _ _ _ _ _ _ _ _ _
   | exact ih4 _ _ _ _ _ _ _ _ _ _ _
   | exact ih5 _ _ _ _ _ _ _ _ _ _ _
   | exact spec_FormatAtom.mono _ _ _ _
   | exact LeO.none _
   | refine LeO.ite ?_ ?_
   | refine LeO.bind ?_ (fun _ => ?_)
  ·
   intro y0 y1 y2 y3 y4 y5 y6 y7 y8
   unfold spec_ParseAtom.l0
   repeat' first
   | (with_reducible exact ih0 _ _ _)
   | (with_reducible exact ih1 _ _ _ _ _ _ _ _ _)
   | (with_reducible exact ih2 _ _ _ _ _ _ _ _ _ _)
   | (with_reducible exact ih3 _ _ _ _ _ _ _ _ _ _ _)
   | (with_reducible exact ih4 _ _ _ _ _ _ _ _ _ _ _)
   | (with_reducible exact ih5 _ _ _ _ _ _ _ _ _ _ _)
   | (with_reducible exact spec_FormatAtom.mono _ _ _ _)
   | (with_reducible exact LeO.refl _)
   | (with_reducible exact LeO.none _)
   | (with_reducible refine LeO.ite ?_ ?_)
   | (with_reducible refine LeO.bind ?_ (fun _ => ?_))
   | exact ih0 _ _ _
   | exact ih1 _ _ _ _ _ _ _ _ _
   | exact ih2 _ _ _ _ _ _ _ _ _ _
   | exact ih3 _ _ _ _ _ _ _ _ _ _ _
   | exact ih4 _ _ _ _ _ _ _ _ _ _ _
   | exact ih5 _ _ _ _ _ _ _ _ _ _ _
   | exact spec_FormatAtom.mono _ _ _ _
   | exact LeO.none _
   | refine LeO.ite ?_ ?_
   | refine LeO.bind ?_ (fun _ => ?_)
  ·
   intro y0 y1 y2 y3 y4 y5 y6 y7 y8 y9
   unfold spec_ParseAtom.j2
   repeat' first
   | (with_reducible exact ih0 _ _ _)
   | (with_reducible exact ih1 _ _ _ _ _ _ _ _ _)
   | (with_reducible exact ih2 _ _ _ _ _ _ _ _ _ _)
   | (with_reducible exact ih3 _ _ _ _ _ _ _ _ _ _ _)
   | (with_reducible exact ih4 _ _ _ _ _ _ _ _ _ _ _)
   | (with_reducible exact ih5 _ _ _ _ _ _ _ _ _ _ _)
   | (with_reducible exact spec_FormatAtom.mono _ _ _ _)
   | (with_reducible exact LeO.refl _)
   | (with_reducible exact LeO.none _)
   | (with_reducible refine LeO.ite ?_ ?_)
   | (with_reducible refine LeO.bind ?_ (fun _ => ?_))
   | exact ih0 _ _ _
   | exact ih1 _ _ _ _ _ _ _ _ _
   | exact ih2 _ _ _ _ _ _ _ _ _ _
   | exact ih3 _ _ _ _ _ _ _ _ _ _ _
   | exact ih4 _ _ _ _ _ _ _ _ _ _ _
   | exact ih5 _ _ _ _ _ _ _ _ _ _ _
   | exact spec_FormatAtom.mono _ _ _ _
   | exact LeO.none _
   | refine LeO.ite ?_ ?_
   | refine LeO.bind ?_ (fun _ => ?_)
  ·
   intro y0 y1 y2 y3 y4 y5 y6 y7 y8 y9 y10
   unfold spec_ParseAtom.l1
   repeat' first
   | (with_reducible exact ih0 _ _ _)
   | (with_reducible exact ih1 _ _ _ _ _ _ _ _ _)
   | (with_reducible exact ih2 _ _ _ _ _ _ _ _ _ _)
   | (with_reducible exact ih3 _ _ _ _ _ _ _ _ _ _ _)
   | (with_reducible exact ih4 _ _ _ _ _ _ _ _ _ _ _)
   | (with_reducible exact ih5 _ _ _ _ _ _ _ _ _ _ _)
   | (with_reducible exact spec_FormatAtom.mono _ _ _ _)
   | (with_reducible exact LeO.refl _)
   | (with_reducible exact LeO.none _)
   | (with_reducible refine LeO.ite ?_ ?_)
   | (with_reducible refine LeO.bind ?_ (fun _ => ?_))
   | exact ih0 _ _ _
   | exact ih1 _ _ _ _ _ _ _ _ _
   | exact ih2 _ _ _ _ _ _ _ _ _ _
   | exact ih3 _ _ _ _ _ _ _ _ _ _ _
   | exact ih4 _ _ _ _ _ _ _ _ _ _ _
   | exact ih5 _ _ _ _ _ _ _ _ _ _ _
   | exact spec_FormatAtom.mono _ _ _ _
   | exact LeO.none _
   | refine LeO.ite ?_ ?_
   | refine LeO.bind ?_ (fun _ => ?_)
  ·
   intro y0 y1 y2 y3 y4 y5 y6 y7 y8 y9 y10
   unfold spec_ParseAtom.j4
   repeat' first
   | (with_reducible exact ih0 _ _ _)
   | (with_reducible exact ih1 _ _ _ _ _ _ _ _ _)
   | (with_reducible exact ih2 _ _ _ _ _ _ _ _ _ _)
   | (with_reducible exact ih3 _ _ _ _ _ _ _ _ _ _ _)
   | (with_reducible exact ih4 _ _ _ _ _ _ _ _ _ _ _)
   | (with_reducible exact ih5 _ _ _ _ _ _ _ _ _ _ _)
   | (with_reducible exact spec_FormatAtom.mono _ _ _ _)
   | (with_reducible exact LeO.refl _)
   | (with_reducible exact LeO.none _)
   | (with_reducible refine LeO.ite ?_ ?_)
   | (with_reducible refine LeO.bind ?_ (fun _ => ?_))
   | exact ih0 _ _ _
   | exact ih1 _ _ _ _ _ _ _ _ _
   | exact ih2 _ _ _ _ _ _ _ _ _ _
   | exact ih3 _ _ _ _ _ _ _ _ _ _ _
   | exact ih4 _ _ _ _ _ _ _ _ _ _ _
   | exact ih5 _ _ _ _ _ _ _ _ _ _ _
   | exact spec_FormatAtom.mono _ _ _ _
   | exact LeO.none _
   | refine LeO.ite ?_ ?_
   | refine LeO.bind ?_ (fun _ => ?_)
  ·
   intro y0 y1 y2 y3 y4 y5 y6 y7 y8 y9 y10
   unfold spec_ParseAtom.j5
   repeat' first
   | (with_reducible exact ih0 _ _ _)
   | (with_reducible exact ih1 _ _ _ _ _ _ _ _ _)
   | (with_reducible exact ih2 _ _ _ _ _ _ _ _ _ _)
   | (with_reducible exact ih3 _ _ _ _ _ _ _ _ _ _ _)
   | (with_reducible exact ih4 _ _ _ _ _ _ _ _ _ _ _)
   | (with_reducible exact ih5 _ _ _ _ _ _ _ _ _ _ _)
   | (with_reducible exact spec_FormatAtom.mono _ _ _ _)
   | (with_reducible exact LeO.refl _)
   | (with_reducible exact LeO.none _)
   | (with_reducible refine LeO.ite ?_ ?_)
   | (with_reducible refine LeO.bind ?_ (fun _ => ?_))
   | exact ih0 _ _ _
   | exact ih1 _ _ _ _ _ _ _ _ _
   | exact ih2 _ _ _ _ _ _ _ _ _ _
   | exact ih3 _ _ _ _ _ _ _ _ _ _ _
   | exact ih4 _ _ _ _ _ _ _ _ _ _ _
   | exact ih5 _ _ _ _ _ _ _ _ _ _ _
   | exact spec_FormatAtom.mono _ _ _ _
   | exact LeO.none _
   | refine LeO.ite ?_ ?_
   | refine LeO.bind ?_ (fun _ => ?_)
theorem spec_ParseAtom.mono : ∀ a0 a1 k, LeO (spec_ParseAtom.f k a0 a1) (spec_ParseAtom.f (k + 1) a0 a1) := by
 intro a0 a1 k
 obtain ⟨ih0, ih1, ih2, ih3, ih4, ih5⟩ := spec_ParseAtom.mono_l k
 unfold spec_ParseAtom.f
 repeat' first
   | (with_reducible exact ih0 _ _ _)
   | (with_reducible exact ih1 _ _ _ _ _ _ _ _ _)
   | (with_reducible exact ih2 _ _ _ _ _ _ _ _ _ _)
   | (with_reducible exact ih3 _ _ _ _ _ _ _ _ _ _ _)
   | (with_reducible exact ih4 _ _ _ _ _ _ _ _ _ _ _)
   | (with_reducible exact ih5 _ _ _ _ _ _ _ _ _ _ _)
   | (with_reducible exact spec_FormatAtom.mono _ _ _ _)
   | (with_reducible exact LeO.refl _)
   | (with_reducible exact LeO.none _)
   | (with_reducible refine LeO.ite ?_ ?_)
   | (with_reducible refine LeO.bind ?_ (fun _ => ?_))
   | exact ih0 _ _ _
   | exact ih1 _ _ _ _ _ _ _ _ _
   | exact ih2 _ _ _ _ _ _ _ _ _ _
   | exact ih3 _ _ _ _ _ _ _ _ _ _ _
   | exact ih4 _ _ _ _ _ _ _ _ _ _ _
   | exact ih5 _ _ _ _ _ _ _ _ _ _ _
   | exact spec_FormatAtom.mono _ _ _ _
   | exact LeO.none _
   | refine LeO.ite ?_ ?_
   | refine LeO.bind ?_ (fun _ => ?_)
set_option maxHeartbeats 8000000 in
set_option maxRecDepth 100000 in
theorem spec_ParseAtom.calls (k : Nat) (a0 : ByteArray) (a1 : Int) (r1 : List Int) (r2 : Int) (r3 : Bool) (r4 : Bool) (w : World) (h : spec_ParseAtom.f k a0 a1 = some (r1, r2, r3, r4)) :
  Calls Tryd.prog 40 #[.string a0, .int .i64 a1] w fun e w' => ∃ v0_ : Value, e = .returned (.tuple #[.agg #[v0_, .int .i64 r2, .bool r3], .bool r4]) ∧ Kd.R (Kd.int .i64) 3 w' w.heap.size (fun _ => True) v0_ r1 ∧ Below w.heap.size w w' := by
 have hu27 := Tryd.underlying27
 have HB := Aside0.mk (Below.refl w.heap.size w)
 have H : ((spec_l1In.f a1 0 4).bind fun ju => (if ju = true then (spec_ParseAtom.j0 k a0 a1 (decide ((a0.size : Int) > 80))) else (spec_ParseAtom.j0 k a0 a1 true))) = some (r1, r2, r3, r4) := h
 clear h
 have HC3 := Aside0.mk H
 clear H
 go_enter Tryd.func40, Tryd.ntmps40
 go_upto_region 1 with (first | ((with_reducible refine gate_dst (N := 4) rfl ?_); (try (refine gate_guard (by rfl) ?_; dsimp only)); refine box_event ?hg (N := 4) ?hd (cs := #[.slice none 0 0, .int .i64 0, .bool false]) (t := 27) ?hr ?_; (case hd => rfl); (case hg => rfl); (case hr => first | (go_simp; done) | (go_simp; rfl)); intro qh hg w4 hbox hb; have qd := Aside0.mk (hbox); have jV := Aside0.mk ((by rw [hg]; exact (bz_ HB) : w.heap.size ≤ qh)); have jW := Aside0.mk ((by rw [hg]; exact (bz_ HB) : w.heap.size ≤ qh)); replace HB := bS_ HB hb; clear hb hbox hg))
 repeat (go_quiet (first | ((with_reducible refine gate_dst (N := 4) rfl ?_); (try (refine gate_guard (by rfl) ?_; dsimp only)); refine box_event ?hg (N := 4) ?hd (cs := #[.slice none 0 0, .int .i64 0, .bool false]) (t := 27) ?hr ?_; (case hd => rfl); (case hg => rfl); (case hr => first | (go_simp; done) | (go_simp; rfl)); intro qh hg w4 hbox hb; have qd := Aside0.mk (hbox); have jV := Aside0.mk ((by rw [hg]; exact (bz_ HB) : w.heap.size ≤ qh)); have jW := Aside0.mk ((by rw [hg]; exact (bz_ HB) : w.heap.size ≤ qh)); replace HB := bS_ HB hb; clear hb hbox hg)); go_upto_region 1 with (first | ((with_reducible refine gate_dst (N := 4) rfl ?_); (try (refine gate_guard (by rfl) ?_; dsimp only)); refine box_event ?hg (N := 4) ?hd (cs := #[.slice none 0 0, .int .i64 0, .bool false]) (t := 27) ?hr ?_; (case hd => rfl); (case hg => rfl); (case hr => first | (go_simp; done) | (go_simp; rfl)); intro qh hg w4 hbox hb; have qd := Aside0.mk (hbox); have jV := Aside0.mk ((by rw [hg]; exact (bz_ HB) : w.heap.size ≤ qh)); have jW := Aside0.mk ((by rw [hg]; exact (bz_ HB) : w.heap.size ≤ qh)); replace HB := bS_ HB hb; clear hb hbox hg)))
 (try simp only [Act.put, List.setIfInBounds_toArray, List.set_cons_zero, List.set_cons_succ])
 go_cut [20] (fun v20 wc => ∃ (kq : Nat) (z9 : Bool), v20 = .bool z9 ∧ Aside0 (spec_ParseAtom.j0 kq a0 a1 z9 = some (r1, r2, r3, r4)) ∧ Aside0 (kq ≤ k) ∧ Aside0 (wc.heap[qh]? = some (.cells #[(.slice none 0 0), .int .i64 0, .bool false] 27 (0, 0))) ∧ Aside0 (Below w.heap.size w wc))
 case first =>
  have H := HC3.out
  clear HC3
  replace H := Option.bind_eq_some_iff.mp H
  obtain ⟨ju, A50, H⟩ := H
  replace H : (if ju = true then (spec_ParseAtom.j0 k a0 a1 (decide ((a0.size : Int) > 80))) else (spec_ParseAtom.j0 k a0 a1 true)) = some (r1, r2, r3, r4) := H
  have A5 := Aside0.mk A50
  clear A50
  by_cases c6 : ju = true
  ·
   subst c6
   have H1 : (spec_ParseAtom.j0 k a0 a1 (decide ((a0.size : Int) > 80))) = some (r1, r2, r3, r4) := by rw [if_pos rfl] at H; exact H
   clear H
   have H := H1
   clear H1
   have H' := Aside0.mk H
   clear H
   go_wp2_with (first | (go_at_call 80; (with_reducible refine (spec_l1In.calls a1 0 4 true _ A5.out).mono ?_); rintro e w' ⟨rfl, ⟨nd, rfl⟩⟩; (try first | exact ⟨rfl, _, World.drewN_drewN _ _ _⟩ | exact ⟨rfl, _, Eq.trans (World.drewN_drewN _ _ _) (congrArg (World.drewN _) (Nat.add_assoc _ _ _))⟩)))
   repeat (go_quiet (first | (go_at_call 80; (with_reducible refine (spec_l1In.calls a1 0 4 true _ A5.out).mono ?_); rintro e w' ⟨rfl, ⟨nd, rfl⟩⟩; (try first | exact ⟨rfl, _, World.drewN_drewN _ _ _⟩ | exact ⟨rfl, _, Eq.trans (World.drewN_drewN _ _ _) (congrArg (World.drewN _) (Nat.add_assoc _ _ _))⟩))); try go_wp2_with (first | (go_at_call 80; (with_reducible refine (spec_l1In.calls a1 0 4 true _ A5.out).mono ?_); rintro e w' ⟨rfl, ⟨nd, rfl⟩⟩; (try first | exact ⟨rfl, _, World.drewN_drewN _ _ _⟩ | exact ⟨rfl, _, Eq.trans (World.drewN_drewN _ _ _) (congrArg (World.drewN _) (Nat.add_assoc _ _ _))⟩))))
   go_meet
   case rel => exact ⟨_, (decide ((a0.size : Int) > 80)), (by first | rfl | (simp; done) | (simp [*]; done)), H', ⟨by first | omega | exact Nat.le_refl _⟩, ⟨kf_ qd⟩, ⟨bb_ HB⟩⟩
  ·
   replace c6 := Bool.eq_false_iff.mpr c6
   subst c6
   have H1 : (spec_ParseAtom.j0 k a0 a1 true) = some (r1, r2, r3, r4) := by rw [if_neg (show ¬ (false = true) by decide)] at H; exact H
   clear H
   have H := H1
   clear H1
   have H' := Aside0.mk H
   clear H
   go_wp2_with (first | (go_at_call 80; (with_reducible refine (spec_l1In.calls a1 0 4 false _ A5.out).mono ?_); rintro e w' ⟨rfl, ⟨nd, rfl⟩⟩; (try first | exact ⟨rfl, _, World.drewN_drewN _ _ _⟩ | exact ⟨rfl, _, Eq.trans (World.drewN_drewN _ _ _) (congrArg (World.drewN _) (Nat.add_assoc _ _ _))⟩)))
   repeat (go_quiet (first | (go_at_call 80; (with_reducible refine (spec_l1In.calls a1 0 4 false _ A5.out).mono ?_); rintro e w' ⟨rfl, ⟨nd, rfl⟩⟩; (try first | exact ⟨rfl, _, World.drewN_drewN _ _ _⟩ | exact ⟨rfl, _, Eq.trans (World.drewN_drewN _ _ _) (congrArg (World.drewN _) (Nat.add_assoc _ _ _))⟩))); try go_wp2_with (first | (go_at_call 80; (with_reducible refine (spec_l1In.calls a1 0 4 false _ A5.out).mono ?_); rintro e w' ⟨rfl, ⟨nd, rfl⟩⟩; (try first | exact ⟨rfl, _, World.drewN_drewN _ _ _⟩ | exact ⟨rfl, _, Eq.trans (World.drewN_drewN _ _ _) (congrArg (World.drewN _) (Nat.add_assoc _ _ _))⟩))))
   go_meet
   case rel => exact ⟨_, (true), (by first | rfl | (simp; done) | (simp [*]; done)), H', ⟨by first | omega | exact Nat.le_refl _⟩, ⟨kf_ qd⟩, ⟨bb_ HB⟩⟩
 case rest =>
  clear HC3
  try clear p2
  try clear c4
  try clear c6
  obtain ⟨kq, z9, rfl, HA, HJ2, qd, HB⟩ := hcut
  cases kq with
  | zero => exact absurd HA.out (by simp [spec_ParseAtom.j0])
  | succ kj2 =>
   have H := HA.out
   clear HA
   simp only [spec_ParseAtom.j0] at H
   by_cases c7 : z9 = true
   ·
    subst c7
    have H1 : (some (([] : List Int), 0, false, false)) = some (r1, r2, r3, r4) := by rw [if_pos rfl] at H; exact H
    clear H
    have H := H1
    clear H1
    simp only [Option.some.injEq, Prod.mk.injEq] at H
    obtain ⟨rfl, rfl, rfl, rfl⟩ := H
    have qT : wc.cell? ⟨qh, 0, none⟩ = some (.slice none 0 0) := bc_ qd 0
    have qU : wc.cell? ⟨qh, 1, none⟩ = some (.int .i64 0) := bc_ qd 1
    have qV : wc.cell? ⟨qh, 2, none⟩ = some (.bool false) := bc_ qd 2
    have qW := blk_frozen qd.out 0
    have qX := blk_frozen qd.out 1
    have qY := blk_frozen qd.out 2
    go_wp2
    repeat (go_quiet (fail); try go_wp2)
    refine bodyPost_ret (results_ct rfl _ _ qh 27 #[.slice none 0 0, .int .i64 0, .bool false] (0, 0) _ rfl (by (with_reducible repeat (first | refine blk_drewN ?_ _ | refine blk_drew ?_ | refine blk_alloc ?_ _)); refine blk_put (cs := #[.slice none 0 0, .int .i64 0, .bool false]) ?_ 2 _ rfl; (with_reducible repeat (first | refine blk_drewN ?_ _ | refine blk_drew ?_ | refine blk_alloc ?_ _)); refine blk_put (cs := #[.slice none 0 0, .int .i64 0, .bool false]) ?_ 1 _ rfl; (with_reducible repeat (first | refine blk_drewN ?_ _ | refine blk_drew ?_ | refine blk_alloc ?_ _)); refine blk_put (cs := #[.slice none 0 0, .int .i64 0, .bool false]) ?_ 0 _ rfl; (with_reducible repeat (first | refine blk_drewN ?_ _ | refine blk_drew ?_ | refine blk_alloc ?_ _)); exact qd.out) Tryd.underlying27 rfl (by kernel_rfl)) rfl ?_
    exact ⟨_, by first | rfl | (simp [errW_none, errW_some] <;> rfl) | (simp [*, errW_none, errW_some] <;> rfl), by first | exact Kd.R_nil _ _ _ _ _ | exact Kd.N_nil _ _ _ _ _ | exact Kd.V_nil _ _ _ _ _ | exact Kd.Q_nil _ _ _ _ _ | exact Kd.S_nil _ _ _ _ _, bb_ HB⟩
   ·
    replace c7 := Bool.eq_false_iff.mpr c7
    subst c7
    have H1 : (if 0 ≤ a1 then (if (a1 : Int).toNat ≤ 35184372088832 then (spec_ParseAtom.l0 kj2 a0 a1 0 1 false 0 (List.replicate (a1 : Int).toNat 0) 0 false) else (none)) else (none)) = some (r1, r2, r3, r4) := by rw [if_neg (show ¬ (false = true) by decide)] at H; exact H
    clear H
    have H := H1
    clear H1
    by_cases c9 : 0 ≤ a1
    ·
     rw [if_pos c9] at H
     have jx := eq_true c9
     have jy : decide (0 ≤ a1) = true := decide_eq_true c9
     clear c9
     by_cases c10 : (a1 : Int).toNat ≤ 35184372088832
     ·
      rw [if_pos c10] at H
      have zd := eq_true c10
      have ze : decide ((a1 : Int).toNat ≤ 35184372088832) = true := decide_eq_true c10
      clear c10
      obtain ⟨y122, hy122⟩ : ∃ y_ : List Int, y_ = (List.replicate (a1 : Int).toNat 0) := ⟨_, rfl⟩
      replace H : (spec_ParseAtom.l0 kj2 a0 a1 0 1 false 0 y122 0 false) = some (r1, r2, r3, r4) := by first | (rw [hy122]; with_reducible exact H) | (have H2_ := (Option.bind_some _ _).symm.trans H; rw [hy122]; with_reducible exact H2_) | (have H2_ := (Option.bind_some _ _).symm.trans H; with_reducible exact H2_) | with_reducible exact H | (rw [hy122]; exact H) | exact H
      have Ny122 := Aside0.mk hy122
      clear hy122
      have H' := Aside0.mk H
      clear H
      go_wp2_with (first | ((with_reducible refine gate_dst (N := 23) rfl ?_); (try (refine gate_guard (by rfl) ?_; dsimp only)); refine Kd.R_make (Kd.int .i64) _ 3 rfl (N := 23) rfl 22 _ _ rfl a1 rfl rfl Tryd.underlying22 (.int .i64 0) 8 info3 rfl (by decide) (by omega) 0 (ok := fun _ => True) (okp := fun _ => True) rfl (fun _ hk => hk) trivial (of_decide_eq_true (by first | (with_reducible assumption) | assumption)) (Nat.le_trans (Nat.mul_le_mul_right _ (of_decide_eq_true (by first | (with_reducible assumption) | assumption) : a1.toNat ≤ 35184372088832)) (by omega)) (Below.refl _ _) (Nat.le_refl _) ?_; intro Qn ZO ho12 hb hg_ hnew_; clear hg_ hnew_; (first | rw [← Ny122.out] at ho12 | (simp only [Int.reduceToNat] at ho12; rw [← Ny122.out] at ho12)); have qG := Aside0.mk (Kd.R_lower ho12 (bz_ HB)); replace qd := kB_ qd hb; replace HB := bS_ HB hb; clear hb ho12; obtain ⟨jv, jw, eo13⟩ := Kd.R_slice qG.out; subst eo13) | ((with_reducible refine gate_dst (N := 6) rfl ?_); (try (refine gate_guard (by rfl) ?_; dsimp only)); refine box_event ?hg (N := 6) ?hd (cs := #[.slice none 0 0, .int .i64 0, .bool false]) (t := 27) ?hr ?_; (case hd => rfl); (case hg => rfl); (case hr => first | (go_simp; done) | (go_simp; rfl)); intro qf hg jz hbox hb; replace qG := rB_ qG hb; have qc := Aside0.mk (hbox); have jX := Aside0.mk ((by rw [hg]; exact (bz_ HB) : w.heap.size ≤ qf)); have jY := Aside0.mk ((by rw [hg]; exact (bz_ HB) : w.heap.size ≤ qf)); replace HB := bS_ HB hb; have ql := Aside0.mk ((nl_ qd hg : qh ≠ qf)); have qm := Aside0.mk ((ng_ qd hg : qf ≠ qh)); replace qd := kB_ qd hb; clear hb hbox hg; have jZ := qm.out; have j1 := ql.out; have qz : jz.cell? ⟨qf, 0, none⟩ = some (.slice none 0 0) := bc_ qc 0; have qA : jz.cell? ⟨qf, 1, none⟩ = some (.int .i64 0) := bc_ qc 1; have qB : jz.cell? ⟨qf, 2, none⟩ = some (.bool false) := bc_ qc 2; have qC := blk_frozen qc.out 0; have qD := blk_frozen qc.out 1; have qE := blk_frozen qc.out 2))
      repeat (go_quiet (first | ((with_reducible refine gate_dst (N := 23) rfl ?_); (try (refine gate_guard (by rfl) ?_; dsimp only)); refine Kd.R_make (Kd.int .i64) _ 3 rfl (N := 23) rfl 22 _ _ rfl a1 rfl rfl Tryd.underlying22 (.int .i64 0) 8 info3 rfl (by decide) (by omega) 0 (ok := fun _ => True) (okp := fun _ => True) rfl (fun _ hk => hk) trivial (of_decide_eq_true (by first | (with_reducible assumption) | assumption)) (Nat.le_trans (Nat.mul_le_mul_right _ (of_decide_eq_true (by first | (with_reducible assumption) | assumption) : a1.toNat ≤ 35184372088832)) (by omega)) (Below.refl _ _) (Nat.le_refl _) ?_; intro Qn ZO ho12 hb hg_ hnew_; clear hg_ hnew_; (first | rw [← Ny122.out] at ho12 | (simp only [Int.reduceToNat] at ho12; rw [← Ny122.out] at ho12)); have qG := Aside0.mk (Kd.R_lower ho12 (bz_ HB)); replace qd := kB_ qd hb; replace HB := bS_ HB hb; clear hb ho12; obtain ⟨jv, jw, eo13⟩ := Kd.R_slice qG.out; subst eo13) | ((with_reducible refine gate_dst (N := 6) rfl ?_); (try (refine gate_guard (by rfl) ?_; dsimp only)); refine box_event ?hg (N := 6) ?hd (cs := #[.slice none 0 0, .int .i64 0, .bool false]) (t := 27) ?hr ?_; (case hd => rfl); (case hg => rfl); (case hr => first | (go_simp; done) | (go_simp; rfl)); intro qf hg jz hbox hb; replace qG := rB_ qG hb; have qc := Aside0.mk (hbox); have jX := Aside0.mk ((by rw [hg]; exact (bz_ HB) : w.heap.size ≤ qf)); have jY := Aside0.mk ((by rw [hg]; exact (bz_ HB) : w.heap.size ≤ qf)); replace HB := bS_ HB hb; have ql := Aside0.mk ((nl_ qd hg : qh ≠ qf)); have qm := Aside0.mk ((ng_ qd hg : qf ≠ qh)); replace qd := kB_ qd hb; clear hb hbox hg; have jZ := qm.out; have j1 := ql.out; have qz : jz.cell? ⟨qf, 0, none⟩ = some (.slice none 0 0) := bc_ qc 0; have qA : jz.cell? ⟨qf, 1, none⟩ = some (.int .i64 0) := bc_ qc 1; have qB : jz.cell? ⟨qf, 2, none⟩ = some (.bool false) := bc_ qc 2; have qC := blk_frozen qc.out 0; have qD := blk_frozen qc.out 1; have qE := blk_frozen qc.out 2)); try go_wp2_with (first | ((with_reducible refine gate_dst (N := 23) rfl ?_); (try (refine gate_guard (by rfl) ?_; dsimp only)); refine Kd.R_make (Kd.int .i64) _ 3 rfl (N := 23) rfl 22 _ _ rfl a1 rfl rfl Tryd.underlying22 (.int .i64 0) 8 info3 rfl (by decide) (by omega) 0 (ok := fun _ => True) (okp := fun _ => True) rfl (fun _ hk => hk) trivial (of_decide_eq_true (by first | (with_reducible assumption) | assumption)) (Nat.le_trans (Nat.mul_le_mul_right _ (of_decide_eq_true (by first | (with_reducible assumption) | assumption) : a1.toNat ≤ 35184372088832)) (by omega)) (Below.refl _ _) (Nat.le_refl _) ?_; intro Qn ZO ho12 hb hg_ hnew_; clear hg_ hnew_; (first | rw [← Ny122.out] at ho12 | (simp only [Int.reduceToNat] at ho12; rw [← Ny122.out] at ho12)); have qG := Aside0.mk (Kd.R_lower ho12 (bz_ HB)); replace qd := kB_ qd hb; replace HB := bS_ HB hb; clear hb ho12; obtain ⟨jv, jw, eo13⟩ := Kd.R_slice qG.out; subst eo13) | ((with_reducible refine gate_dst (N := 6) rfl ?_); (try (refine gate_guard (by rfl) ?_; dsimp only)); refine box_event ?hg (N := 6) ?hd (cs := #[.slice none 0 0, .int .i64 0, .bool false]) (t := 27) ?hr ?_; (case hd => rfl); (case hg => rfl); (case hr => first | (go_simp; done) | (go_simp; rfl)); intro qf hg jz hbox hb; replace qG := rB_ qG hb; have qc := Aside0.mk (hbox); have jX := Aside0.mk ((by rw [hg]; exact (bz_ HB) : w.heap.size ≤ qf)); have jY := Aside0.mk ((by rw [hg]; exact (bz_ HB) : w.heap.size ≤ qf)); replace HB := bS_ HB hb; have ql := Aside0.mk ((nl_ qd hg : qh ≠ qf)); have qm := Aside0.mk ((ng_ qd hg : qf ≠ qh)); replace qd := kB_ qd hb; clear hb hbox hg; have jZ := qm.out; have j1 := ql.out; have qz : jz.cell? ⟨qf, 0, none⟩ = some (.slice none 0 0) := bc_ qc 0; have qA : jz.cell? ⟨qf, 1, none⟩ = some (.int .i64 0) := bc_ qc 1; have qB : jz.cell? ⟨qf, 2, none⟩ = some (.bool false) := bc_ qc 2; have qC := blk_frozen qc.out 0; have qD := blk_frozen qc.out 1; have qE := blk_frozen qc.out 2)))
      go_loopg [7, 8, 9, 10] kj2 (fun kq v7 v8 v9 v10 w' => ∃ (qj : Int) (qi : Int) (qK : Bool) (qg : Int) (qa : List Int) (qe : Int) (u126000 : Value), v7 = .int .i64 qj ∧ v8 = .int .i64 qi ∧ v9 = .bool qK ∧ v10 = .int .i64 qg ∧ Aside0 (spec_ParseAtom.l0 kq a0 a1 qj qi qK qg qa qe false = some (r1, r2, r3, r4)) ∧ Aside0 (kq ≤ kj2) ∧ Aside0 (Kd.R (Kd.int .i64) 3 w' w.heap.size (fun _ => True) u126000 qa) ∧ Aside0 (w'.heap[qh]? = some (.cells #[(.slice none 0 0), .int .i64 0, .bool false] 27 (0, 0))) ∧ Aside0 (w'.heap[qf]? = some (.cells #[u126000, .int .i64 qe, .bool false] 27 (0, 0))) ∧ Aside0 (Below w.heap.size w w'))
      case atStart => exact ⟨(0), (1), (false), (0), (y122), (0), (.slice jv y122.length jw), (by first | rfl | (simp; done) | (simp [*]; done)), (by first | rfl | (simp; done) | (simp [*]; done)), (by first | rfl | (simp; done) | (simp [*]; done)), (by first | rfl | (simp; done) | (simp [*]; done)), H', ⟨Nat.le_refl _⟩, ⟨by (with_reducible repeat (first | apply Kd.R_alloc | apply Kd.R_drewN | apply Kd.R_drew)); exact Kd.R_mono (Kd.R_far (p := ⟨qf, 2, none⟩) (Kd.R_far (p := ⟨qf, 1, none⟩) (Kd.R_far (p := ⟨qf, 0, none⟩) (Kd.R_types qG.out qc.out (by decide)) (fun _ hk => hk.2) (.slice jv y122.length jw)) (fun _ hk => hk.2) (.int .i64 0)) (fun _ hk => hk.2) (.bool false)) (fun _ hk => trivial)⟩, ⟨kf_ qd⟩, ⟨by (with_reducible repeat (first | refine blk_drewN ?_ _ | refine blk_drew ?_ | refine blk_alloc ?_ _)); refine blk_put (cs := #[.slice jv y122.length jw, .int .i64 0, .bool false]) ?_ 2 _ rfl; (with_reducible repeat (first | refine blk_drewN ?_ _ | refine blk_drew ?_ | refine blk_alloc ?_ _)); refine blk_put (cs := #[.slice jv y122.length jw, .int .i64 0, .bool false]) ?_ 1 _ rfl; (with_reducible repeat (first | refine blk_drewN ?_ _ | refine blk_drew ?_ | refine blk_alloc ?_ _)); refine blk_put (cs := #[.slice none 0 0, .int .i64 0, .bool false]) ?_ 0 _ rfl; (with_reducible repeat (first | refine blk_drewN ?_ _ | refine blk_drew ?_ | refine blk_alloc ?_ _)); exact qc.out⟩, ⟨bb_ HB⟩⟩
      case round =>
       clear H'
       try clear c1
       try clear p2
       try clear c4
       try clear c6
       try clear c7
       try clear c9
       try clear jx
       try clear jy
       try clear c10
       try clear zd
       try clear ze
       try clear c15
       try clear qz
       try clear qA
       try clear qB
       try clear qT
       try clear qU
       try clear qV
       try clear qC
       try clear qD
       try clear qE
       try clear qW
       try clear qX
       try clear qY
       try clear p2
       obtain ⟨qj, qi, qK, qg, qa, qe, u126000, rfl, rfl, rfl, rfl, HA, HK2, qb, qd, qc, HB⟩ := hrel
       cases gk with
       | zero => exact absurd HA.out (by simp [spec_ParseAtom.l0])
       | succ k2 =>
        have H := HA.out
        clear HA
        simp only [spec_ParseAtom.l0] at H
        have HC17 := Aside0.mk H
        clear H
        go_upto_region 8 with (fail)
        repeat (go_quiet (fail); go_upto_region 8 with (fail))
        go_cut [34] (fun v34 wc => ∃ (kq : Nat) (q9 : Bool), v34 = .bool q9 ∧ Aside0 (spec_ParseAtom.j2 kq a0 a1 qj qi qK qg q9 qa qe false = some (r1, r2, r3, r4)) ∧ Aside0 (kq ≤ k2) ∧ Aside0 (Kd.R (Kd.int .i64) 3 wc w.heap.size (fun _ => True) u126000 qa) ∧ Aside0 (wc.heap[qh]? = some (.cells #[(.slice none 0 0), .int .i64 0, .bool false] 27 (0, 0))) ∧ Aside0 (wc.heap[qf]? = some (.cells #[u126000, .int .i64 qe, .bool false] 27 (0, 0))) ∧ Aside0 (Below w.heap.size w wc))
        case first =>
         have H := HC17.out
         clear HC17
         by_cases c18 : qg < (a0.size : Int)
         ·
          rw [if_pos c18] at H
          have qM : decide (qg < (a0.size : Int)) = true := decide_eq_true c18
          clear c18
          (first | rw [qM] | (simp only [i64_w, i32_w]; rw [qM]) | skip)
          by_cases c19 : 0 ≤ qg
          ·
           rw [if_pos c19] at H
           have ja : decide (0 ≤ qg) = true := decide_eq_true c19
           clear c19
           have H' := Aside0.mk H
           clear H
           have p20 : 0 ≤ (qg : Int) := of_decide_eq_true (by first | (with_reducible assumption) | assumption)
           have q20 : qg < (a0.size : Int) := of_decide_eq_true (by first | (with_reducible assumption) | assumption)
           have hx20 := bt_at a0 qg
           replace p20 := eq_true p20
           replace q20 := eq_true q20
           go_wp2
           repeat (go_quiet (fail); try go_wp2)
           go_meet
           case rel => exact ⟨_, (((bt a0 qg) != 60)), (by first | rfl | (simp; done) | (simp [*]; done)), H', ⟨by have := HJ2.out; have := HK2.out; first | omega | exact Nat.le_refl _⟩, ⟨by (with_reducible repeat (first | apply Kd.R_alloc | apply Kd.R_drewN | apply Kd.R_drew)); exact qb.out⟩, ⟨kf_ qd⟩, ⟨kf_ qc⟩, ⟨bb_ HB⟩⟩
          ·
           rw [if_neg c19] at H
           exact absurd H (by simp)
         ·
          rw [if_neg c18] at H
          have qM : decide (qg < (a0.size : Int)) = false := decide_eq_false c18
          clear c18
          (first | rw [qM] | (simp only [i64_w, i32_w]; rw [qM]) | skip)
          have H' := Aside0.mk H
          clear H
          go_wp2
          repeat (go_quiet (fail); try go_wp2)
          go_meet
          case rel => exact ⟨_, (false), (by first | rfl | (simp; done) | (simp [*]; done)), H', ⟨by have := HJ2.out; have := HK2.out; first | omega | exact Nat.le_refl _⟩, ⟨by (with_reducible repeat (first | apply Kd.R_alloc | apply Kd.R_drewN | apply Kd.R_drew)); exact qb.out⟩, ⟨kf_ qd⟩, ⟨kf_ qc⟩, ⟨bb_ HB⟩⟩
        case rest =>
         clear HC17
         try clear c1
         try clear p2
         try clear q2
         try clear hx2
         try clear c4
         try clear c6
         try clear c7
         try clear c9
         try clear jx
         try clear jy
         try clear c10
         try clear zd
         try clear ze
         try clear c15
         try clear c18
         try clear qM
         try clear c19
         try clear ja
         try clear p20
         try clear q20
         try clear hx20
         try clear qz
         try clear qA
         try clear qB
         try clear qT
         try clear qU
         try clear qV
         try clear qC
         try clear qD
         try clear qE
         try clear qW
         try clear qX
         try clear qY
         try clear p2
         try clear p20
         try clear q20
         obtain ⟨kq, q9, rfl, HA, HJ16, qb, qd, qc, HB⟩ := hcut
         cases kq with
         | zero => exact absurd HA.out (by simp [spec_ParseAtom.j2])
         | succ kj16 =>
          have H := HA.out
          clear HA
          simp only [spec_ParseAtom.j2] at H
          by_cases c21 : q9 = true
          ·
           subst c21
           have H1 : (spec_ParseAtom.l1 kj16 a0 a1 qj qi qK qg (-1) 0 qa qe false) = some (r1, r2, r3, r4) := by rw [if_pos rfl] at H; exact H
           clear H
           have H := H1
           clear H1
           have H' := Aside0.mk H
           clear H
           go_wp2
           repeat (go_quiet (fail); try go_wp2)
           go_loopg [11, 12] kj16 (fun kq v11 v12 w' => ∃ (qk : Int) (qn : Int), v11 = .int .i64 qk ∧ v12 = .int .i64 qn ∧ Aside0 (spec_ParseAtom.l1 kq a0 a1 qj qi qK qg qk qn qa qe false = some (r1, r2, r3, r4)) ∧ Aside0 (kq ≤ kj16) ∧ Aside0 (Kd.R (Kd.int .i64) 3 w' w.heap.size (fun _ => True) u126000 qa) ∧ Aside0 (w'.heap[qh]? = some (.cells #[(.slice none 0 0), .int .i64 0, .bool false] 27 (0, 0))) ∧ Aside0 (w'.heap[qf]? = some (.cells #[u126000, .int .i64 qe, .bool false] 27 (0, 0))) ∧ Aside0 (Below w.heap.size w w'))
           case atStart => exact ⟨((-1)), (0), (by first | rfl | (simp; done) | (simp [*]; done)), (by first | rfl | (simp; done) | (simp [*]; done)), H', ⟨Nat.le_refl _⟩, ⟨by (with_reducible repeat (first | apply Kd.R_alloc | apply Kd.R_drewN | apply Kd.R_drew)); exact qb.out⟩, ⟨kf_ qd⟩, ⟨kf_ qc⟩, ⟨bb_ HB⟩⟩
           case round =>
            clear H'
            try clear c1
            try clear c2
            try clear p2
            try clear q2
            try clear hx2
            try clear c4
            try clear c6
            try clear c7
            try clear c9
            try clear jx
            try clear jy
            try clear c10
            try clear zd
            try clear ze
            try clear c15
            try clear c18
            try clear qM
            try clear c19
            try clear ja
            try clear p20
            try clear q20
            try clear hx20
            try clear c21
            try clear qz
            try clear qA
            try clear qB
            try clear qT
            try clear qU
            try clear qV
            try clear qC
            try clear qD
            try clear qE
            try clear qW
            try clear qX
            try clear qY
            try clear p2
            try clear p20
            try clear q2
            try clear q20
            obtain ⟨qk, qn, rfl, rfl, HA, HK4, qb, qd, qc, HB⟩ := hrel
            cases gk with
            | zero => exact absurd HA.out (by simp [spec_ParseAtom.l1])
            | succ k4 =>
             have H := HA.out
             clear HA
             simp only [spec_ParseAtom.l1] at H
             by_cases c22 : qn < a1
             ·
              rw [if_pos c22] at H
              have jA : decide (qn < a1) = true := decide_eq_true c22
              clear c22
              by_cases c23 : 0 ≤ qg
              ·
               rw [if_pos c23] at H
               have j3 : decide (0 ≤ qg) = true := decide_eq_true c23
               clear c23
               by_cases c24 : qg < (a0.size : Int)
               ·
                rw [if_pos c24] at H
                have j6 : decide (qg < (a0.size : Int)) = true := decide_eq_true c24
                clear c24
                by_cases c26 : 0 ≤ qn
                ·
                 rw [if_pos c26] at H
                 have j7 : decide (0 ≤ qn) = true := decide_eq_true c26
                 clear c26
                 by_cases c27 : qn < 4
                 ·
                  rw [if_pos c27] at H
                  have j8 : decide (qn < 4) = true := decide_eq_true c27
                  clear c27
                  by_cases c29 : (bt a0 qg) = (bt (⟨#[120, 121, 122, 116]⟩ : ByteArray) qn)
                  ·
                   rw [if_pos c29] at H
                   have jB : ((bt a0 qg) == (bt (⟨#[120, 121, 122, 116]⟩ : ByteArray) qn)) = true := beq_iff_eq.mpr c29
                   have jC : ((bt a0 qg) != (bt (⟨#[120, 121, 122, 116]⟩ : ByteArray) qn)) = false := bne_eq_false_iff_eq.mpr c29
                   clear c29
                   have H' := Aside0.mk H
                   clear H
                   have p25 : 0 ≤ (qg : Int) := of_decide_eq_true (by first | (with_reducible assumption) | assumption)
                   have q25 : qg < (a0.size : Int) := of_decide_eq_true (by first | (with_reducible assumption) | assumption)
                   have hx25 := bt_at a0 qg
                   replace p25 := eq_true p25
                   replace q25 := eq_true q25
                   have p28 : 0 ≤ (qn : Int) := of_decide_eq_true (by first | (with_reducible assumption) | assumption)
                   have q28 : qn < (4 : Int) := of_decide_eq_true (by first | (with_reducible assumption) | assumption)
                   have hx28 := bt_at (⟨#[120, 121, 122, 116]⟩ : ByteArray) qn
                   replace p28 := eq_true p28
                   replace q28 := eq_true q28
                   go_wp2
                   repeat (go_quiet (fail); try go_wp2)
                   go_roundg k4
                   case measure => have := HJ2.out; have := HK2.out; have := HJ16.out; have := HK4.out; omega
                   case rel => exact ⟨(qn), (wrap64 (qn + 1)), (by first | rfl | (simp; done) | (simp [*]; done)), (by first | rfl | (simp; done) | (simp [*]; done)), H', ⟨by have := HJ2.out; have := HK2.out; have := HJ16.out; have := HK4.out; omega⟩, ⟨by (with_reducible repeat (first | apply Kd.R_alloc | apply Kd.R_drewN | apply Kd.R_drew)); exact qb.out⟩, ⟨kf_ qd⟩, ⟨kf_ qc⟩, ⟨bb_ HB⟩⟩
                  ·
                   rw [if_neg c29] at H
                   have jB : ((bt a0 qg) == (bt (⟨#[120, 121, 122, 116]⟩ : ByteArray) qn)) = false := beq_eq_false_iff_ne.mpr c29
                   have jC : ((bt a0 qg) != (bt (⟨#[120, 121, 122, 116]⟩ : ByteArray) qn)) = true := bne_iff_ne.mpr c29
                   have H' := Aside0.mk H
                   clear H
                   have p25 : 0 ≤ (qg : Int) := of_decide_eq_true (by first | (with_reducible assumption) | assumption)
                   have q25 : qg < (a0.size : Int) := of_decide_eq_true (by first | (with_reducible assumption) | assumption)
                   have hx25 := bt_at a0 qg
                   replace p25 := eq_true p25
                   replace q25 := eq_true q25
                   have p28 : 0 ≤ (qn : Int) := of_decide_eq_true (by first | (with_reducible assumption) | assumption)
                   have q28 : qn < (4 : Int) := of_decide_eq_true (by first | (with_reducible assumption) | assumption)
                   have hx28 := bt_at (⟨#[120, 121, 122, 116]⟩ : ByteArray) qn
                   replace p28 := eq_true p28
                   replace q28 := eq_true q28
                   go_wp2
                   repeat (go_quiet (fail); try go_wp2)
                   go_roundg k4
                   case measure => have := HJ2.out; have := HK2.out; have := HJ16.out; have := HK4.out; omega
                   case rel => exact ⟨(qk), (wrap64 (qn + 1)), (by first | rfl | (simp; done) | (simp [*]; done)), (by first | rfl | (simp; done) | (simp [*]; done)), H', ⟨by have := HJ2.out; have := HK2.out; have := HJ16.out; have := HK4.out; omega⟩, ⟨by (with_reducible repeat (first | apply Kd.R_alloc | apply Kd.R_drewN | apply Kd.R_drew)); exact qb.out⟩, ⟨kf_ qd⟩, ⟨kf_ qc⟩, ⟨bb_ HB⟩⟩
                 ·
                  rw [if_neg c27] at H
                  exact absurd H (by simp)
                ·
                 rw [if_neg c26] at H
                 exact absurd H (by simp)
               ·
                rw [if_neg c24] at H
                exact absurd H (by simp)
              ·
               rw [if_neg c23] at H
               exact absurd H (by simp)
             ·
              rw [if_neg c22] at H
              have jA : decide (qn < a1) = false := decide_eq_false c22
              clear c22
              have HC30 := Aside0.mk H
              clear H
              go_upto_region 16 with (fail)
              repeat (go_quiet (fail); go_upto_region 16 with (fail))
              go_cut [49] (fun v49 wc => ∃ (kq : Nat) (za : Bool), v49 = .bool za ∧ Aside0 (spec_ParseAtom.j4 kq a0 a1 qj qi qK qg qk za qa qe false = some (r1, r2, r3, r4)) ∧ Aside0 (kq ≤ k4) ∧ Aside0 (Kd.R (Kd.int .i64) 3 wc w.heap.size (fun _ => True) u126000 qa) ∧ Aside0 (wc.heap[qh]? = some (.cells #[(.slice none 0 0), .int .i64 0, .bool false] 27 (0, 0))) ∧ Aside0 (wc.heap[qf]? = some (.cells #[u126000, .int .i64 qe, .bool false] 27 (0, 0))) ∧ Aside0 (Below w.heap.size w wc))
              case first =>
               have H := HC30.out
               clear HC30
               by_cases c31 : 0 ≤ qg
               ·
                rw [if_pos c31] at H
                have jb : decide (0 ≤ qg) = true := decide_eq_true c31
                clear c31
                (first | rw [jb] | (simp only [i64_w, i32_w]; rw [jb]) | skip)
                by_cases c32 : qg < (a0.size : Int)
                ·
                 rw [if_pos c32] at H
                 have j9 : decide (qg < (a0.size : Int)) = true := decide_eq_true c32
                 clear c32
                 by_cases c34 : (bt a0 qg) = 43
                 ·
                  rw [if_pos c34] at H
                  have jD : ((bt a0 qg) == 43) = true := beq_iff_eq.mpr c34
                  have jE : ((bt a0 qg) != 43) = false := bne_eq_false_iff_eq.mpr c34
                  clear c34
                  have H' := Aside0.mk H
                  clear H
                  have p33 : 0 ≤ (qg : Int) := of_decide_eq_true (by first | (with_reducible assumption) | assumption)
                  have q33 : qg < (a0.size : Int) := of_decide_eq_true (by first | (with_reducible assumption) | assumption)
                  have hx33 := bt_at a0 qg
                  replace p33 := eq_true p33
                  replace q33 := eq_true q33
                  go_wp2
                  repeat (go_quiet (fail); try go_wp2)
                  go_meet
                  case rel => exact ⟨_, (true), (by first | rfl | (simp; done) | (simp [*]; done)), H', ⟨by have := HJ2.out; have := HK2.out; have := HJ16.out; have := HK4.out; first | omega | exact Nat.le_refl _⟩, ⟨by (with_reducible repeat (first | apply Kd.R_alloc | apply Kd.R_drewN | apply Kd.R_drew)); exact qb.out⟩, ⟨kf_ qd⟩, ⟨kf_ qc⟩, ⟨bb_ HB⟩⟩
                 ·
                  rw [if_neg c34] at H
                  have jD : ((bt a0 qg) == 43) = false := beq_eq_false_iff_ne.mpr c34
                  have jE : ((bt a0 qg) != 43) = true := bne_iff_ne.mpr c34
                  have H' := Aside0.mk H
                  clear H
                  have p33 : 0 ≤ (qg : Int) := of_decide_eq_true (by first | (with_reducible assumption) | assumption)
                  have q33 : qg < (a0.size : Int) := of_decide_eq_true (by first | (with_reducible assumption) | assumption)
                  have hx33 := bt_at a0 qg
                  replace p33 := eq_true p33
                  replace q33 := eq_true q33
                  have p35 : 0 ≤ (qg : Int) := of_decide_eq_true (by first | (with_reducible assumption) | assumption)
                  have q35 : qg < (a0.size : Int) := of_decide_eq_true (by first | (with_reducible assumption) | assumption)
                  have hx35 := bt_at a0 qg
                  replace p35 := eq_true p35
                  replace q35 := eq_true q35
                  go_wp2
                  repeat (go_quiet (fail); try go_wp2)
                  go_meet
                  case rel => exact ⟨_, (((bt a0 qg) == 45)), (by first | rfl | (simp; done) | (simp [*]; done)), H', ⟨by have := HJ2.out; have := HK2.out; have := HJ16.out; have := HK4.out; first | omega | exact Nat.le_refl _⟩, ⟨by (with_reducible repeat (first | apply Kd.R_alloc | apply Kd.R_drewN | apply Kd.R_drew)); exact qb.out⟩, ⟨kf_ qd⟩, ⟨kf_ qc⟩, ⟨bb_ HB⟩⟩
                ·
                 rw [if_neg c32] at H
                 exact absurd H (by simp)
               ·
                rw [if_neg c31] at H
                exact absurd H (by simp)
              case rest =>
               clear HC30
               try clear c1
               try clear c2
               try clear p2
               try clear q2
               try clear hx2
               try clear c3
               try clear p3
               try clear q3
               try clear hx3
               try clear c4
               try clear c6
               try clear p6
               try clear c7
               try clear c9
               try clear jx
               try clear jy
               try clear c10
               try clear zd
               try clear ze
               try clear c15
               try clear c18
               try clear qM
               try clear c19
               try clear ja
               try clear p20
               try clear q20
               try clear hx20
               try clear c21
               try clear c22
               try clear jA
               try clear c23
               try clear j3
               try clear c24
               try clear j6
               try clear p25
               try clear q25
               try clear hx25
               try clear c26
               try clear j7
               try clear c27
               try clear j8
               try clear p28
               try clear q28
               try clear hx28
               try clear c29
               try clear jB
               try clear jC
               try clear c31
               try clear jb
               try clear c32
               try clear j9
               try clear p33
               try clear q33
               try clear hx33
               try clear c34
               try clear jD
               try clear jE
               try clear p35
               try clear q35
               try clear hx35
               try clear qz
               try clear qA
               try clear qB
               try clear qT
               try clear qU
               try clear qV
               try clear qC
               try clear qD
               try clear qE
               try clear qW
               try clear qX
               try clear qY
               try clear p2
               try clear p20
               try clear p25
               try clear p28
               try clear p33
               try clear p35
               try clear q2
               try clear q20
               try clear q25
               try clear q28
               try clear q33
               try clear q35
               obtain ⟨kq, za, rfl, HA, HJ29, qb, qd, qc, HB⟩ := hcut
               cases kq with
               | zero => exact absurd HA.out (by simp [spec_ParseAtom.j4])
               | succ kj29 =>
                have H := HA.out
                clear HA
                simp only [spec_ParseAtom.j4] at H
                by_cases c36 : za = true
                ·
                 subst c36
                 have H1 : (if qK = true then (if 0 ≤ qg then (if qg < (a0.size : Int) then (if (bt a0 qg) = 45 then (spec_ParseAtom.l0 kj29 a0 a1 0 (-1) false (wrap64 (qg + 1)) qa (wrap64 (qi * qj)) false) else (spec_ParseAtom.l0 kj29 a0 a1 0 1 false (wrap64 (qg + 1)) qa (wrap64 (qi * qj)) false)) else (none)) else (none)) else (if 0 ≤ qg then (if qg < (a0.size : Int) then (if (bt a0 qg) = 45 then (spec_ParseAtom.l0 kj29 a0 a1 0 (-1) false (wrap64 (qg + 1)) qa qe false) else (spec_ParseAtom.l0 kj29 a0 a1 0 1 false (wrap64 (qg + 1)) qa qe false)) else (none)) else (none))) = some (r1, r2, r3, r4) := by rw [if_pos rfl] at H; exact H
                 clear H
                 have H := H1
                 clear H1
                 by_cases c37 : qK = true
                 ·
                  subst c37
                  have H1 : (if 0 ≤ qg then (if qg < (a0.size : Int) then (if (bt a0 qg) = 45 then (spec_ParseAtom.l0 kj29 a0 a1 0 (-1) false (wrap64 (qg + 1)) qa (wrap64 (qi * qj)) false) else (spec_ParseAtom.l0 kj29 a0 a1 0 1 false (wrap64 (qg + 1)) qa (wrap64 (qi * qj)) false)) else (none)) else (none)) = some (r1, r2, r3, r4) := by rw [if_pos rfl] at H; exact H
                  clear H
                  have H := H1
                  clear H1
                  by_cases c38 : 0 ≤ qg
                  ·
                   rw [if_pos c38] at H
                   have Qo : decide (0 ≤ qg) = true := decide_eq_true c38
                   clear c38
                   by_cases c39 : qg < (a0.size : Int)
                   ·
                    rw [if_pos c39] at H
                    have Qp : decide (qg < (a0.size : Int)) = true := decide_eq_true c39
                    clear c39
                    by_cases c41 : (bt a0 qg) = 45
                    ·
                     rw [if_pos c41] at H
                     have Qa : ((bt a0 qg) == 45) = true := beq_iff_eq.mpr c41
                     have Qb : ((bt a0 qg) != 45) = false := bne_eq_false_iff_eq.mpr c41
                     clear c41
                     have H' := Aside0.mk H
                     clear H
                     have ZP := qm.out
                     have ZQ := ql.out
                     have jJ : wc.cell? ⟨qf, 0, none⟩ = some (u126000) := bc_ qc 0
                     have jK : wc.cell? ⟨qf, 1, none⟩ = some (.int .i64 qe) := bc_ qc 1
                     have jL : wc.cell? ⟨qf, 2, none⟩ = some (.bool false) := bc_ qc 2
                     have jM := blk_frozen qc.out 0
                     have jN := blk_frozen qc.out 1
                     have jO := blk_frozen qc.out 2
                     have p40 : 0 ≤ (qg : Int) := of_decide_eq_true (by first | (with_reducible assumption) | assumption)
                     have q40 : qg < (a0.size : Int) := of_decide_eq_true (by first | (with_reducible assumption) | assumption)
                     have hx40 := bt_at a0 qg
                     replace p40 := eq_true p40
                     replace q40 := eq_true q40
                     go_wp2
                     repeat (go_quiet (fail); try go_wp2)
                     go_roundg kj29
                     case measure => have := HJ2.out; have := HK2.out; have := HJ16.out; have := HK4.out; have := HJ29.out; omega
                     case rel => exact ⟨(0), ((-1)), (false), (wrap64 (qg + 1)), (qa), (wrap64 (qi * qj)), (u126000), (by first | rfl | (simp; done) | (simp [*]; done)), (by first | rfl | (simp; done) | (simp [*]; done)), (by first | rfl | (simp; done) | (simp [*]; done)), (by first | rfl | (simp; done) | (simp [*]; done)), H', ⟨by have := HJ2.out; have := HK2.out; have := HJ16.out; have := HK4.out; have := HJ29.out; omega⟩, ⟨by (with_reducible repeat (first | apply Kd.R_alloc | apply Kd.R_drewN | apply Kd.R_drew)); exact Kd.R_mono (Kd.R_far (p := ⟨qf, 1, none⟩) (Kd.R_types qb.out qc.out (by decide)) (fun _ hk => hk.2) (.int .i64 (wrap64 (qi * qj)))) (fun _ hk => trivial)⟩, ⟨kf_ qd⟩, ⟨by (with_reducible repeat (first | refine blk_drewN ?_ _ | refine blk_drew ?_ | refine blk_alloc ?_ _)); refine blk_put (cs := #[u126000, .int .i64 qe, .bool false]) ?_ 1 _ rfl; (with_reducible repeat (first | refine blk_drewN ?_ _ | refine blk_drew ?_ | refine blk_alloc ?_ _)); exact qc.out⟩, ⟨bb_ HB⟩⟩
                    ·
                     rw [if_neg c41] at H
                     have Qa : ((bt a0 qg) == 45) = false := beq_eq_false_iff_ne.mpr c41
                     have Qb : ((bt a0 qg) != 45) = true := bne_iff_ne.mpr c41
                     have H' := Aside0.mk H
                     clear H
                     have ZR := qm.out
                     have ZS := ql.out
                     have jP : wc.cell? ⟨qf, 0, none⟩ = some (u126000) := bc_ qc 0
                     have jQ : wc.cell? ⟨qf, 1, none⟩ = some (.int .i64 qe) := bc_ qc 1
                     have jR : wc.cell? ⟨qf, 2, none⟩ = some (.bool false) := bc_ qc 2
                     have jS := blk_frozen qc.out 0
                     have jT := blk_frozen qc.out 1
                     have jU := blk_frozen qc.out 2
                     have p40 : 0 ≤ (qg : Int) := of_decide_eq_true (by first | (with_reducible assumption) | assumption)
                     have q40 : qg < (a0.size : Int) := of_decide_eq_true (by first | (with_reducible assumption) | assumption)
                     have hx40 := bt_at a0 qg
                     replace p40 := eq_true p40
                     replace q40 := eq_true q40
                     go_wp2
                     repeat (go_quiet (fail); try go_wp2)
                     go_roundg kj29
                     case measure => have := HJ2.out; have := HK2.out; have := HJ16.out; have := HK4.out; have := HJ29.out; omega
                     case rel => exact ⟨(0), (1), (false), (wrap64 (qg + 1)), (qa), (wrap64 (qi * qj)), (u126000), (by first | rfl | (simp; done) | (simp [*]; done)), (by first | rfl | (simp; done) | (simp [*]; done)), (by first | rfl | (simp; done) | (simp [*]; done)), (by first | rfl | (simp; done) | (simp [*]; done)), H', ⟨by have := HJ2.out; have := HK2.out; have := HJ16.out; have := HK4.out; have := HJ29.out; omega⟩, ⟨by (with_reducible repeat (first | apply Kd.R_alloc | apply Kd.R_drewN | apply Kd.R_drew)); exact Kd.R_mono (Kd.R_far (p := ⟨qf, 1, none⟩) (Kd.R_types qb.out qc.out (by decide)) (fun _ hk => hk.2) (.int .i64 (wrap64 (qi * qj)))) (fun _ hk => trivial)⟩, ⟨kf_ qd⟩, ⟨by (with_reducible repeat (first | refine blk_drewN ?_ _ | refine blk_drew ?_ | refine blk_alloc ?_ _)); refine blk_put (cs := #[u126000, .int .i64 qe, .bool false]) ?_ 1 _ rfl; (with_reducible repeat (first | refine blk_drewN ?_ _ | refine blk_drew ?_ | refine blk_alloc ?_ _)); exact qc.out⟩, ⟨bb_ HB⟩⟩
                   ·
                    rw [if_neg c39] at H
                    exact absurd H (by simp)
                  ·
                   rw [if_neg c38] at H
                   exact absurd H (by simp)
                 ·
                  replace c37 := Bool.eq_false_iff.mpr c37
                  subst c37
                  have H1 : (if 0 ≤ qg then (if qg < (a0.size : Int) then (if (bt a0 qg) = 45 then (spec_ParseAtom.l0 kj29 a0 a1 0 (-1) false (wrap64 (qg + 1)) qa qe false) else (spec_ParseAtom.l0 kj29 a0 a1 0 1 false (wrap64 (qg + 1)) qa qe false)) else (none)) else (none)) = some (r1, r2, r3, r4) := by rw [if_neg (show ¬ (false = true) by decide)] at H; exact H
                  clear H
                  have H := H1
                  clear H1
                  by_cases c46 : 0 ≤ qg
                  ·
                   rw [if_pos c46] at H
                   have Qq : decide (0 ≤ qg) = true := decide_eq_true c46
                   clear c46
                   by_cases c47 : qg < (a0.size : Int)
                   ·
                    rw [if_pos c47] at H
                    have Qr : decide (qg < (a0.size : Int)) = true := decide_eq_true c47
                    clear c47
                    by_cases c49 : (bt a0 qg) = 45
                    ·
                     rw [if_pos c49] at H
                     have Qc : ((bt a0 qg) == 45) = true := beq_iff_eq.mpr c49
                     have Qd : ((bt a0 qg) != 45) = false := bne_eq_false_iff_eq.mpr c49
                     clear c49
                     have H' := Aside0.mk H
                     clear H
                     have p48 : 0 ≤ (qg : Int) := of_decide_eq_true (by first | (with_reducible assumption) | assumption)
                     have q48 : qg < (a0.size : Int) := of_decide_eq_true (by first | (with_reducible assumption) | assumption)
                     have hx48 := bt_at a0 qg
                     replace p48 := eq_true p48
                     replace q48 := eq_true q48
                     go_wp2
                     repeat (go_quiet (fail); try go_wp2)
                     go_roundg kj29
                     case measure => have := HJ2.out; have := HK2.out; have := HJ16.out; have := HK4.out; have := HJ29.out; omega
                     case rel => exact ⟨(0), ((-1)), (false), (wrap64 (qg + 1)), (qa), (qe), (u126000), (by first | rfl | (simp; done) | (simp [*]; done)), (by first | rfl | (simp; done) | (simp [*]; done)), (by first | rfl | (simp; done) | (simp [*]; done)), (by first | rfl | (simp; done) | (simp [*]; done)), H', ⟨by have := HJ2.out; have := HK2.out; have := HJ16.out; have := HK4.out; have := HJ29.out; omega⟩, ⟨by (with_reducible repeat (first | apply Kd.R_alloc | apply Kd.R_drewN | apply Kd.R_drew)); exact qb.out⟩, ⟨kf_ qd⟩, ⟨kf_ qc⟩, ⟨bb_ HB⟩⟩
                    ·
                     rw [if_neg c49] at H
                     have Qc : ((bt a0 qg) == 45) = false := beq_eq_false_iff_ne.mpr c49
                     have Qd : ((bt a0 qg) != 45) = true := bne_iff_ne.mpr c49
                     have H' := Aside0.mk H
                     clear H
                     have p48 : 0 ≤ (qg : Int) := of_decide_eq_true (by first | (with_reducible assumption) | assumption)
                     have q48 : qg < (a0.size : Int) := of_decide_eq_true (by first | (with_reducible assumption) | assumption)
                     have hx48 := bt_at a0 qg
                     replace p48 := eq_true p48
                     replace q48 := eq_true q48
                     go_wp2
                     repeat (go_quiet (fail); try go_wp2)
                     go_roundg kj29
                     case measure => have := HJ2.out; have := HK2.out; have := HJ16.out; have := HK4.out; have := HJ29.out; omega
                     case rel => exact ⟨(0), (1), (false), (wrap64 (qg + 1)), (qa), (qe), (u126000), (by first | rfl | (simp; done) | (simp [*]; done)), (by first | rfl | (simp; done) | (simp [*]; done)), (by first | rfl | (simp; done) | (simp [*]; done)), (by first | rfl | (simp; done) | (simp [*]; done)), H', ⟨by have := HJ2.out; have := HK2.out; have := HJ16.out; have := HK4.out; have := HJ29.out; omega⟩, ⟨by (with_reducible repeat (first | apply Kd.R_alloc | apply Kd.R_drewN | apply Kd.R_drew)); exact qb.out⟩, ⟨kf_ qd⟩, ⟨kf_ qc⟩, ⟨bb_ HB⟩⟩
                   ·
                    rw [if_neg c47] at H
                    exact absurd H (by simp)
                  ·
                   rw [if_neg c46] at H
                   exact absurd H (by simp)
                ·
                 replace c36 := Bool.eq_false_iff.mpr c36
                 subst c36
                 have H1 : (if 0 ≤ qg then (if qg < (a0.size : Int) then (if (bt a0 qg) ≥ 48 then (spec_ParseAtom.j5 kj29 a0 a1 qj qi qK qg qk (decide ((bt a0 qg) ≤ 57)) qa qe false) else (spec_ParseAtom.j5 kj29 a0 a1 qj qi qK qg qk false qa qe false)) else (none)) else (none)) = some (r1, r2, r3, r4) := by rw [if_neg (show ¬ (false = true) by decide)] at H; exact H
                 clear H
                 have H := H1
                 clear H1
                 have HC50 := Aside0.mk H
                 clear H
                 go_upto_region 24 with (fail)
                 repeat (go_quiet (fail); go_upto_region 24 with (fail))
                 go_cut [69] (fun v69 wc => ∃ (kq : Nat) (zb : Bool), v69 = .bool zb ∧ Aside0 (spec_ParseAtom.j5 kq a0 a1 qj qi qK qg qk zb qa qe false = some (r1, r2, r3, r4)) ∧ Aside0 (kq ≤ kj29) ∧ Aside0 (Kd.R (Kd.int .i64) 3 wc w.heap.size (fun _ => True) u126000 qa) ∧ Aside0 (wc.heap[qh]? = some (.cells #[(.slice none 0 0), .int .i64 0, .bool false] 27 (0, 0))) ∧ Aside0 (wc.heap[qf]? = some (.cells #[u126000, .int .i64 qe, .bool false] 27 (0, 0))) ∧ Aside0 (Below w.heap.size w wc))
                 case first =>
                  have H := HC50.out
                  clear HC50
                  by_cases c51 : 0 ≤ qg
                  ·
                   rw [if_pos c51] at H
                   have jF : decide (0 ≤ qg) = true := decide_eq_true c51
                   clear c51
                   (first | rw [jF] | (simp only [i64_w, i32_w]; rw [jF]) | skip)
                   by_cases c52 : qg < (a0.size : Int)
                   ·
                    rw [if_pos c52] at H
                    have Qs : decide (qg < (a0.size : Int)) = true := decide_eq_true c52
                    clear c52
                    by_cases c54 : (bt a0 qg) ≥ 48
                    ·
                     rw [if_pos c54] at H
                     have Qe : decide (48 ≤ (bt a0 qg)) = true := decide_eq_true c54
                     clear c54
                     have H' := Aside0.mk H
                     clear H
                     have p53 : 0 ≤ (qg : Int) := of_decide_eq_true (by first | (with_reducible assumption) | assumption)
                     have q53 : qg < (a0.size : Int) := of_decide_eq_true (by first | (with_reducible assumption) | assumption)
                     have hx53 := bt_at a0 qg
                     replace p53 := eq_true p53
                     replace q53 := eq_true q53
                     have p55 : 0 ≤ (qg : Int) := of_decide_eq_true (by first | (with_reducible assumption) | assumption)
                     have q55 : qg < (a0.size : Int) := of_decide_eq_true (by first | (with_reducible assumption) | assumption)
                     have hx55 := bt_at a0 qg
                     replace p55 := eq_true p55
                     replace q55 := eq_true q55
                     go_wp2
                     repeat (go_quiet (fail); try go_wp2)
                     go_meet
                     case rel => exact ⟨_, (decide ((bt a0 qg) ≤ 57)), (by first | rfl | (simp; done) | (simp [*]; done)), H', ⟨by have := HJ2.out; have := HK2.out; have := HJ16.out; have := HK4.out; have := HJ29.out; first | omega | exact Nat.le_refl _⟩, ⟨by (with_reducible repeat (first | apply Kd.R_alloc | apply Kd.R_drewN | apply Kd.R_drew)); exact qb.out⟩, ⟨kf_ qd⟩, ⟨kf_ qc⟩, ⟨bb_ HB⟩⟩
                    ·
                     rw [if_neg c54] at H
                     have Qe : decide (48 ≤ (bt a0 qg)) = false := decide_eq_false c54
                     clear c54
                     have H' := Aside0.mk H
                     clear H
                     have p53 : 0 ≤ (qg : Int) := of_decide_eq_true (by first | (with_reducible assumption) | assumption)
                     have q53 : qg < (a0.size : Int) := of_decide_eq_true (by first | (with_reducible assumption) | assumption)
                     have hx53 := bt_at a0 qg
                     replace p53 := eq_true p53
                     replace q53 := eq_true q53
                     go_wp2
                     repeat (go_quiet (fail); try go_wp2)
                     go_meet
                     case rel => exact ⟨_, (false), (by first | rfl | (simp; done) | (simp [*]; done)), H', ⟨by have := HJ2.out; have := HK2.out; have := HJ16.out; have := HK4.out; have := HJ29.out; first | omega | exact Nat.le_refl _⟩, ⟨by (with_reducible repeat (first | apply Kd.R_alloc | apply Kd.R_drewN | apply Kd.R_drew)); exact qb.out⟩, ⟨kf_ qd⟩, ⟨kf_ qc⟩, ⟨bb_ HB⟩⟩
                   ·
                    rw [if_neg c52] at H
                    exact absurd H (by simp)
                  ·
                   rw [if_neg c51] at H
                   exact absurd H (by simp)
                 case rest =>
                  clear HC50
                  try clear c1
                  try clear c2
                  try clear p2
                  try clear q2
                  try clear hx2
                  try clear c3
                  try clear p3
                  try clear q3
                  try clear hx3
                  try clear c4
                  try clear p4
                  try clear q4
                  try clear hx4
                  try clear c5
                  try clear p5
                  try clear q5
                  try clear hx5
                  try clear c6
                  try clear p6
                  try clear c7
                  try clear c9
                  try clear jx
                  try clear jy
                  try clear c10
                  try clear zd
                  try clear ze
                  try clear c15
                  try clear c18
                  try clear qM
                  try clear c19
                  try clear ja
                  try clear p20
                  try clear q20
                  try clear hx20
                  try clear c21
                  try clear c22
                  try clear jA
                  try clear c23
                  try clear j3
                  try clear c24
                  try clear j6
                  try clear p25
                  try clear q25
                  try clear hx25
                  try clear c26
                  try clear j7
                  try clear c27
                  try clear j8
                  try clear p28
                  try clear q28
                  try clear hx28
                  try clear c29
                  try clear jB
                  try clear jC
                  try clear c31
                  try clear jb
                  try clear c32
                  try clear j9
                  try clear p33
                  try clear q33
                  try clear hx33
                  try clear c34
                  try clear jD
                  try clear jE
                  try clear p35
                  try clear q35
                  try clear hx35
                  try clear c36
                  try clear c37
                  try clear c38
                  try clear Qo
                  try clear c39
                  try clear Qp
                  try clear p40
                  try clear q40
                  try clear hx40
                  try clear c41
                  try clear Qa
                  try clear Qb
                  try clear c42
                  try clear c44
                  try clear c46
                  try clear Qq
                  try clear c47
                  try clear Qr
                  try clear p48
                  try clear q48
                  try clear hx48
                  try clear c49
                  try clear Qc
                  try clear Qd
                  try clear c51
                  try clear jF
                  try clear c52
                  try clear Qs
                  try clear p53
                  try clear q53
                  try clear hx53
                  try clear c54
                  try clear Qe
                  try clear p55
                  try clear q55
                  try clear hx55
                  try clear qz
                  try clear qA
                  try clear qB
                  try clear jJ
                  try clear jK
                  try clear jL
                  try clear jP
                  try clear jQ
                  try clear jR
                  try clear qT
                  try clear qU
                  try clear qV
                  try clear qC
                  try clear qD
                  try clear qE
                  try clear jM
                  try clear jN
                  try clear jO
                  try clear jS
                  try clear jT
                  try clear jU
                  try clear qW
                  try clear qX
                  try clear qY
                  try clear p2
                  try clear p20
                  try clear p25
                  try clear p28
                  try clear p3
                  try clear p33
                  try clear p35
                  try clear p40
                  try clear p48
                  try clear p53
                  try clear p55
                  try clear p6
                  try clear q2
                  try clear q20
                  try clear q25
                  try clear q28
                  try clear q3
                  try clear q33
                  try clear q35
                  try clear q40
                  try clear q48
                  try clear q53
                  try clear q55
                  obtain ⟨kq, zb, rfl, HA, HJ49, qb, qd, qc, HB⟩ := hcut
                  cases kq with
                  | zero => exact absurd HA.out (by simp [spec_ParseAtom.j5])
                  | succ kj49 =>
                   have H := HA.out
                   clear HA
                   simp only [spec_ParseAtom.j5] at H
                   by_cases c56 : zb = true
                   ·
                    subst c56
                    have H1 : (if 0 ≤ qg then (if qg < (a0.size : Int) then (spec_ParseAtom.l0 kj49 a0 a1 (mn (wrap64 ((wrap64 (qj * 10)) + (((bt a0 qg) - 48) % 256))) 800000000) qi true (wrap64 (qg + 1)) qa qe false) else (none)) else (none)) = some (r1, r2, r3, r4) := by rw [if_pos rfl] at H; exact H
                    clear H
                    have H := H1
                    clear H1
                    by_cases c57 : 0 ≤ qg
                    ·
                     rw [if_pos c57] at H
                     have ZT : decide (0 ≤ qg) = true := decide_eq_true c57
                     clear c57
                     by_cases c58 : qg < (a0.size : Int)
                     ·
                      rw [if_pos c58] at H
                      have ZU : decide (qg < (a0.size : Int)) = true := decide_eq_true c58
                      clear c58
                      obtain ⟨ji60, hji60⟩ : ∃ j_ : Int, (mn (wrap64 ((wrap64 (qj * 10)) + (((bt a0 qg) - 48) % 256))) 800000000) = j_ := ⟨_, rfl⟩
                      replace H : (spec_ParseAtom.l0 kj49 a0 a1 ji60 qi true (wrap64 (qg + 1)) qa qe false) = some (r1, r2, r3, r4) := by first | (rw [hji60] at H; exact H) | (simp only [hji60] at H ⊢; exact H)
                      have hji60_ : (if 800000000 < (wrap64 ((wrap64 (qj * 10)) + (((bt a0 qg) - 48) % 256))) then 800000000 else (wrap64 ((wrap64 (qj * 10)) + (((bt a0 qg) - 48) % 256)))) = ji60 := hji60
                      have H' := Aside0.mk H
                      clear H
                      have p59 : 0 ≤ (qg : Int) := of_decide_eq_true (by first | (with_reducible assumption) | assumption)
                      have q59 : qg < (a0.size : Int) := of_decide_eq_true (by first | (with_reducible assumption) | assumption)
                      have hx59 := bt_at a0 qg
                      replace p59 := eq_true p59
                      replace q59 := eq_true q59
                      go_wp2
                      repeat (go_quiet (fail); try go_wp2)
                      go_roundg kj49
                      case measure => have := HJ2.out; have := HK2.out; have := HJ16.out; have := HK4.out; have := HJ29.out; have := HJ49.out; omega
                      case rel => exact ⟨(ji60), (qi), (true), (wrap64 (qg + 1)), (qa), (qe), (u126000), (by first | rfl | (simp; done) | (simp only [← hji60] <;> (first | rfl | simp)) | (simp [*]; done)), (by first | rfl | (simp; done) | (simp [*]; done)), (by first | rfl | (simp; done) | (simp [*]; done)), (by first | rfl | (simp; done) | (simp [*]; done)), H', ⟨by have := HJ2.out; have := HK2.out; have := HJ16.out; have := HK4.out; have := HJ29.out; have := HJ49.out; omega⟩, ⟨by (with_reducible repeat (first | apply Kd.R_alloc | apply Kd.R_drewN | apply Kd.R_drew)); exact qb.out⟩, ⟨kf_ qd⟩, ⟨kf_ qc⟩, ⟨bb_ HB⟩⟩
                     ·
                      rw [if_neg c58] at H
                      exact absurd H (by simp)
                    ·
                     rw [if_neg c57] at H
                     exact absurd H (by simp)
                   ·
                    replace c56 := Bool.eq_false_iff.mpr c56
                    subst c56
                    have H1 : (if qk ≥ 0 then (if qK = true then (if 0 ≤ qk then (if qk < (qa.length : Int) then (spec_ParseAtom.l0 kj49 a0 a1 0 qi false (wrap64 (qg + 1)) (qa.set (qk : Int).toNat (wrap64 (qi * qj))) qe false) else (none)) else (none)) else (if 0 ≤ qk then (if qk < (qa.length : Int) then (spec_ParseAtom.l0 kj49 a0 a1 0 qi false (wrap64 (qg + 1)) (qa.set (qk : Int).toNat (wrap64 (qi * 1))) qe false) else (none)) else (none))) else (spec_ParseAtom.l0 kj49 a0 a1 qj qi qK (wrap64 (qg + 1)) qa qe false)) = some (r1, r2, r3, r4) := by rw [if_neg (show ¬ (false = true) by decide)] at H; exact H
                    clear H
                    have H := H1
                    clear H1
                    by_cases c61 : qk ≥ 0
                    ·
                     rw [if_pos c61] at H
                     have Qt : decide (0 ≤ qk) = true := decide_eq_true c61
                     clear c61
                     by_cases c62 : qK = true
                     ·
                      subst c62
                      have H1 : (if 0 ≤ qk then (if qk < (qa.length : Int) then (spec_ParseAtom.l0 kj49 a0 a1 0 qi false (wrap64 (qg + 1)) (qa.set (qk : Int).toNat (wrap64 (qi * qj))) qe false) else (none)) else (none)) = some (r1, r2, r3, r4) := by rw [if_pos rfl] at H; exact H
                      clear H
                      have H := H1
                      clear H1
                      by_cases c63 : 0 ≤ qk
                      ·
                       rw [if_pos c63] at H
                       have ZV : decide (0 ≤ qk) = true := decide_eq_true c63
                       clear c63
                       by_cases c64 : qk < (qa.length : Int)
                       ·
                        rw [if_pos c64] at H
                        have ZW : decide (qk < (qa.length : Int)) = true := decide_eq_true c64
                        clear c64
                        obtain ⟨y126, hy126⟩ : ∃ y_ : List Int, y_ = (qa.set (qk : Int).toNat (wrap64 (qi * qj))) := ⟨_, rfl⟩
                        replace H : (spec_ParseAtom.l0 kj49 a0 a1 0 qi false (wrap64 (qg + 1)) y126 qe false) = some (r1, r2, r3, r4) := by first | (rw [hy126]; with_reducible exact H) | (have H2_ := (Option.bind_some _ _).symm.trans H; rw [hy126]; with_reducible exact H2_) | (have H2_ := (Option.bind_some _ _).symm.trans H; with_reducible exact H2_) | with_reducible exact H | (rw [hy126]; exact H) | exact H
                        have Ny126 := Aside0.mk hy126
                        clear hy126
                        have H' := Aside0.mk H
                        clear H
                        have ZX := qm.out
                        have ZY := ql.out
                        have Q6 : wc.cell? ⟨qf, 0, none⟩ = some (u126000) := bc_ qc 0
                        have Q7 : wc.cell? ⟨qf, 1, none⟩ = some (.int .i64 qe) := bc_ qc 1
                        have Q8 : wc.cell? ⟨qf, 2, none⟩ = some (.bool false) := bc_ qc 2
                        have Q9 := blk_frozen qc.out 0
                        have Za := blk_frozen qc.out 1
                        have Zb := blk_frozen qc.out 2
                        have p65 : 0 ≤ (qk : Int) := of_decide_eq_true (by first | (with_reducible assumption) | assumption)
                        have q65 : (qk : Int) < ((qa.length : Int) : Int) := of_decide_eq_true (by first | (with_reducible assumption) | assumption)
                        obtain ⟨go65, z7, eo65, Qu, gl65, cl65, HG65⟩ := Kd.R_form qb.out (by omega)
                        (first | cases eo65 | (injection eo65 with ea_ en_ ec_; (first | subst ea_ | (injection ea_ with ea_; subst ea_)); subst ec_; clear en_))
                        have Qf := Aside0.mk Qu
                        have Jb := Aside0.mk HG65
                        clear Qu gl65 HG65
                        obtain ⟨ZA, hf65_0⟩ := Kd.R_celln 0 qb.out (qk : Int) p65 q65
                        replace p65 := eq_true p65
                        replace q65 := eq_true q65
                        have qQ := Kd.R_putg qb.out (qk : Int) (wrap64 (qi * qj))
                        go_wp2_with (first | ((with_reducible refine gate_store (t := 3) (p := 100) rfl ?_); (try (rw [drewN_self wc]; generalize hq_ : World.drewN wc _ = wc; have n0_ := Aside0.mk (Kd.R_at hq_ qb.out); have n1_ := Aside0.mk (blk_at hq_ qd.out); have n2_ := Aside0.mk (blk_at hq_ qc.out); have n3_ := Aside0.mk (below_at hq_ HB.out); clear hq_ qb qd qc HB; have qb := n0_; have qd := n1_; have qc := n2_; have HB := n3_; clear n0_ n1_ n2_ n3_; (try (have qQ := Kd.R_putg qb.out (qk : Int) (wrap64 (qi * qj)))))); refine store_event (t := 3) (p := 100) (v := ?vo_w69) (w1 := (wc.setCell ⟨go65, (qk : Int).toNat, none⟩ (.int .i64 (wrap64 (qi * qj))))) ?hg ?ho ?hn ?hr ?_; (case ho => rfl); (case hg => rfl); (case hn => rfl); (case hr => first | (go_simp; done) | (go_simp; rfl)); intro jG hw; have hg : wc.grownBy jG (some go65) := (by rw [hw]; exact qQ.2); have hp_ : Kd.R (Kd.int .i64) 3 jG w.heap.size (fun _ => True) (.slice (some ⟨go65, 0, none⟩) qa.length z7) y126 := (by rw [hw, Ny126.out]; exact qQ.1); clear qQ; replace qd := Aside0.mk (blk_grown (g := qh) (o := .cells #[.slice none 0 0, .int .i64 0, .bool false] 27 (0, 0)) (kf_ qd) hg (Kd.R_ne qb.out qd.out (by decide))); replace qc := Aside0.mk (blk_grown (g := qf) (o := .cells #[.slice (some ⟨go65, 0, none⟩) qa.length z7, .int .i64 qe, .bool false] 27 (0, 0)) (kf_ qc) hg (Kd.R_ne qb.out qc.out (by decide))); replace qb := Aside0.mk (hp_); replace HB := Aside0.mk ((by rw [hw]; exact below_set (HB.out) Qf.out : Below w.heap.size w jG)); clear hg hw hp_))
                        repeat (go_quiet (first | ((with_reducible refine gate_store (t := 3) (p := 100) rfl ?_); (try (rw [drewN_self wc]; generalize hq_ : World.drewN wc _ = wc; have n0_ := Aside0.mk (Kd.R_at hq_ qb.out); have n1_ := Aside0.mk (blk_at hq_ qd.out); have n2_ := Aside0.mk (blk_at hq_ qc.out); have n3_ := Aside0.mk (below_at hq_ HB.out); clear hq_ qb qd qc HB; have qb := n0_; have qd := n1_; have qc := n2_; have HB := n3_; clear n0_ n1_ n2_ n3_; (try (have qQ := Kd.R_putg qb.out (qk : Int) (wrap64 (qi * qj)))))); refine store_event (t := 3) (p := 100) (v := ?vo_w69) (w1 := (wc.setCell ⟨go65, (qk : Int).toNat, none⟩ (.int .i64 (wrap64 (qi * qj))))) ?hg ?ho ?hn ?hr ?_; (case ho => rfl); (case hg => rfl); (case hn => rfl); (case hr => first | (go_simp; done) | (go_simp; rfl)); intro jG hw; have hg : wc.grownBy jG (some go65) := (by rw [hw]; exact qQ.2); have hp_ : Kd.R (Kd.int .i64) 3 jG w.heap.size (fun _ => True) (.slice (some ⟨go65, 0, none⟩) qa.length z7) y126 := (by rw [hw, Ny126.out]; exact qQ.1); clear qQ; replace qd := Aside0.mk (blk_grown (g := qh) (o := .cells #[.slice none 0 0, .int .i64 0, .bool false] 27 (0, 0)) (kf_ qd) hg (Kd.R_ne qb.out qd.out (by decide))); replace qc := Aside0.mk (blk_grown (g := qf) (o := .cells #[.slice (some ⟨go65, 0, none⟩) qa.length z7, .int .i64 qe, .bool false] 27 (0, 0)) (kf_ qc) hg (Kd.R_ne qb.out qc.out (by decide))); replace qb := Aside0.mk (hp_); replace HB := Aside0.mk ((by rw [hw]; exact below_set (HB.out) Qf.out : Below w.heap.size w jG)); clear hg hw hp_)); try go_wp2_with (first | ((with_reducible refine gate_store (t := 3) (p := 100) rfl ?_); (try (rw [drewN_self wc]; generalize hq_ : World.drewN wc _ = wc; have n0_ := Aside0.mk (Kd.R_at hq_ qb.out); have n1_ := Aside0.mk (blk_at hq_ qd.out); have n2_ := Aside0.mk (blk_at hq_ qc.out); have n3_ := Aside0.mk (below_at hq_ HB.out); clear hq_ qb qd qc HB; have qb := n0_; have qd := n1_; have qc := n2_; have HB := n3_; clear n0_ n1_ n2_ n3_; (try (have qQ := Kd.R_putg qb.out (qk : Int) (wrap64 (qi * qj)))))); refine store_event (t := 3) (p := 100) (v := ?vo_w69) (w1 := (wc.setCell ⟨go65, (qk : Int).toNat, none⟩ (.int .i64 (wrap64 (qi * qj))))) ?hg ?ho ?hn ?hr ?_; (case ho => rfl); (case hg => rfl); (case hn => rfl); (case hr => first | (go_simp; done) | (go_simp; rfl)); intro jG hw; have hg : wc.grownBy jG (some go65) := (by rw [hw]; exact qQ.2); have hp_ : Kd.R (Kd.int .i64) 3 jG w.heap.size (fun _ => True) (.slice (some ⟨go65, 0, none⟩) qa.length z7) y126 := (by rw [hw, Ny126.out]; exact qQ.1); clear qQ; replace qd := Aside0.mk (blk_grown (g := qh) (o := .cells #[.slice none 0 0, .int .i64 0, .bool false] 27 (0, 0)) (kf_ qd) hg (Kd.R_ne qb.out qd.out (by decide))); replace qc := Aside0.mk (blk_grown (g := qf) (o := .cells #[.slice (some ⟨go65, 0, none⟩) qa.length z7, .int .i64 qe, .bool false] 27 (0, 0)) (kf_ qc) hg (Kd.R_ne qb.out qc.out (by decide))); replace qb := Aside0.mk (hp_); replace HB := Aside0.mk ((by rw [hw]; exact below_set (HB.out) Qf.out : Below w.heap.size w jG)); clear hg hw hp_)))
                        go_roundg kj49
                        case measure => have := HJ2.out; have := HK2.out; have := HJ16.out; have := HK4.out; have := HJ29.out; have := HJ49.out; omega
                        case rel => exact ⟨(0), (qi), (false), (wrap64 (qg + 1)), (y126), (qe), (.slice (some ⟨go65, 0, none⟩) qa.length z7), (by first | rfl | (simp; done) | (simp [*]; done)), (by first | rfl | (simp; done) | (simp [*]; done)), (by first | rfl | (simp; done) | (simp [*]; done)), (by first | rfl | (simp; done) | (simp [*]; done)), H', ⟨by have := HJ2.out; have := HK2.out; have := HJ16.out; have := HK4.out; have := HJ29.out; have := HJ49.out; omega⟩, ⟨by (with_reducible repeat (first | apply Kd.R_alloc | apply Kd.R_drewN | apply Kd.R_drew)); exact qb.out⟩, ⟨kf_ qd⟩, ⟨kf_ qc⟩, ⟨bb_ HB⟩⟩
                       ·
                        rw [if_neg c64] at H
                        exact absurd H (by simp)
                      ·
                       rw [if_neg c63] at H
                       exact absurd H (by simp)
                     ·
                      replace c62 := Bool.eq_false_iff.mpr c62
                      subst c62
                      have H1 : (if 0 ≤ qk then (if qk < (qa.length : Int) then (spec_ParseAtom.l0 kj49 a0 a1 0 qi false (wrap64 (qg + 1)) (qa.set (qk : Int).toNat (wrap64 (qi * 1))) qe false) else (none)) else (none)) = some (r1, r2, r3, r4) := by rw [if_neg (show ¬ (false = true) by decide)] at H; exact H
                      clear H
                      have H := H1
                      clear H1
                      by_cases c70 : 0 ≤ qk
                      ·
                       rw [if_pos c70] at H
                       have ZZ : decide (0 ≤ qk) = true := decide_eq_true c70
                       clear c70
                       by_cases c71 : qk < (qa.length : Int)
                       ·
                        rw [if_pos c71] at H
                        have Z0 : decide (qk < (qa.length : Int)) = true := decide_eq_true c71
                        clear c71
                        obtain ⟨y127, hy127⟩ : ∃ y_ : List Int, y_ = (qa.set (qk : Int).toNat (wrap64 (qi * 1))) := ⟨_, rfl⟩
                        replace H : (spec_ParseAtom.l0 kj49 a0 a1 0 qi false (wrap64 (qg + 1)) y127 qe false) = some (r1, r2, r3, r4) := by first | (rw [hy127]; with_reducible exact H) | (have H2_ := (Option.bind_some _ _).symm.trans H; rw [hy127]; with_reducible exact H2_) | (have H2_ := (Option.bind_some _ _).symm.trans H; with_reducible exact H2_) | with_reducible exact H | (rw [hy127]; exact H) | exact H
                        have Ny127 := Aside0.mk hy127
                        clear hy127
                        have H' := Aside0.mk H
                        clear H
                        have Z1 := qm.out
                        have Z2 := ql.out
                        have Zc : wc.cell? ⟨qf, 0, none⟩ = some (u126000) := bc_ qc 0
                        have Zd : wc.cell? ⟨qf, 1, none⟩ = some (.int .i64 qe) := bc_ qc 1
                        have Ze : wc.cell? ⟨qf, 2, none⟩ = some (.bool false) := bc_ qc 2
                        have Zf := blk_frozen qc.out 0
                        have Zg := blk_frozen qc.out 1
                        have Zh := blk_frozen qc.out 2
                        have p72 : 0 ≤ (qk : Int) := of_decide_eq_true (by first | (with_reducible assumption) | assumption)
                        have q72 : (qk : Int) < ((qa.length : Int) : Int) := of_decide_eq_true (by first | (with_reducible assumption) | assumption)
                        obtain ⟨go72, z8, eo72, Qv, gl72, cl72, HG72⟩ := Kd.R_form qb.out (by omega)
                        (first | cases eo72 | (injection eo72 with ea_ en_ ec_; (first | subst ea_ | (injection ea_ with ea_; subst ea_)); subst ec_; clear en_))
                        have Qg := Aside0.mk Qv
                        have Jc := Aside0.mk HG72
                        clear Qv gl72 HG72
                        obtain ⟨ZB, hf72_0⟩ := Kd.R_celln 0 qb.out (qk : Int) p72 q72
                        replace p72 := eq_true p72
                        replace q72 := eq_true q72
                        have qR := Kd.R_putg qb.out (qk : Int) (wrap64 (qi * 1))
                        go_wp2_with (first | ((with_reducible refine gate_store (t := 3) (p := 100) rfl ?_); (try (rw [drewN_self wc]; generalize hq_ : World.drewN wc _ = wc; have n0_ := Aside0.mk (Kd.R_at hq_ qb.out); have n1_ := Aside0.mk (blk_at hq_ qd.out); have n2_ := Aside0.mk (blk_at hq_ qc.out); have n3_ := Aside0.mk (below_at hq_ HB.out); clear hq_ qb qd qc HB; have qb := n0_; have qd := n1_; have qc := n2_; have HB := n3_; clear n0_ n1_ n2_ n3_; (try (have qR := Kd.R_putg qb.out (qk : Int) (wrap64 (qi * 1)))))); refine store_event (t := 3) (p := 100) (v := ?vo_w76) (w1 := (wc.setCell ⟨go72, (qk : Int).toNat, none⟩ (.int .i64 (wrap64 (qi * 1))))) ?hg ?ho ?hn ?hr ?_; (case ho => rfl); (case hg => rfl); (case hn => rfl); (case hr => first | (go_simp; done) | (go_simp; rfl)); intro jH hw; have hg : wc.grownBy jH (some go72) := (by rw [hw]; exact qR.2); have hp_ : Kd.R (Kd.int .i64) 3 jH w.heap.size (fun _ => True) (.slice (some ⟨go72, 0, none⟩) qa.length z8) y127 := (by rw [hw, Ny127.out]; exact qR.1); clear qR; replace qd := Aside0.mk (blk_grown (g := qh) (o := .cells #[.slice none 0 0, .int .i64 0, .bool false] 27 (0, 0)) (kf_ qd) hg (Kd.R_ne qb.out qd.out (by decide))); replace qc := Aside0.mk (blk_grown (g := qf) (o := .cells #[.slice (some ⟨go72, 0, none⟩) qa.length z8, .int .i64 qe, .bool false] 27 (0, 0)) (kf_ qc) hg (Kd.R_ne qb.out qc.out (by decide))); replace qb := Aside0.mk (hp_); replace HB := Aside0.mk ((by rw [hw]; exact below_set (HB.out) Qg.out : Below w.heap.size w jH)); clear hg hw hp_))
                        repeat (go_quiet (first | ((with_reducible refine gate_store (t := 3) (p := 100) rfl ?_); (try (rw [drewN_self wc]; generalize hq_ : World.drewN wc _ = wc; have n0_ := Aside0.mk (Kd.R_at hq_ qb.out); have n1_ := Aside0.mk (blk_at hq_ qd.out); have n2_ := Aside0.mk (blk_at hq_ qc.out); have n3_ := Aside0.mk (below_at hq_ HB.out); clear hq_ qb qd qc HB; have qb := n0_; have qd := n1_; have qc := n2_; have HB := n3_; clear n0_ n1_ n2_ n3_; (try (have qR := Kd.R_putg qb.out (qk : Int) (wrap64 (qi * 1)))))); refine store_event (t := 3) (p := 100) (v := ?vo_w76) (w1 := (wc.setCell ⟨go72, (qk : Int).toNat, none⟩ (.int .i64 (wrap64 (qi * 1))))) ?hg ?ho ?hn ?hr ?_; (case ho => rfl); (case hg => rfl); (case hn => rfl); (case hr => first | (go_simp; done) | (go_simp; rfl)); intro jH hw; have hg : wc.grownBy jH (some go72) := (by rw [hw]; exact qR.2); have hp_ : Kd.R (Kd.int .i64) 3 jH w.heap.size (fun _ => True) (.slice (some ⟨go72, 0, none⟩) qa.length z8) y127 := (by rw [hw, Ny127.out]; exact qR.1); clear qR; replace qd := Aside0.mk (blk_grown (g := qh) (o := .cells #[.slice none 0 0, .int .i64 0, .bool false] 27 (0, 0)) (kf_ qd) hg (Kd.R_ne qb.out qd.out (by decide))); replace qc := Aside0.mk (blk_grown (g := qf) (o := .cells #[.slice (some ⟨go72, 0, none⟩) qa.length z8, .int .i64 qe, .bool false] 27 (0, 0)) (kf_ qc) hg (Kd.R_ne qb.out qc.out (by decide))); replace qb := Aside0.mk (hp_); replace HB := Aside0.mk ((by rw [hw]; exact below_set (HB.out) Qg.out : Below w.heap.size w jH)); clear hg hw hp_)); try go_wp2_with (first | ((with_reducible refine gate_store (t := 3) (p := 100) rfl ?_); (try (rw [drewN_self wc]; generalize hq_ : World.drewN wc _ = wc; have n0_ := Aside0.mk (Kd.R_at hq_ qb.out); have n1_ := Aside0.mk (blk_at hq_ qd.out); have n2_ := Aside0.mk (blk_at hq_ qc.out); have n3_ := Aside0.mk (below_at hq_ HB.out); clear hq_ qb qd qc HB; have qb := n0_; have qd := n1_; have qc := n2_; have HB := n3_; clear n0_ n1_ n2_ n3_; (try (have qR := Kd.R_putg qb.out (qk : Int) (wrap64 (qi * 1)))))); refine store_event (t := 3) (p := 100) (v := ?vo_w76) (w1 := (wc.setCell ⟨go72, (qk : Int).toNat, none⟩ (.int .i64 (wrap64 (qi * 1))))) ?hg ?ho ?hn ?hr ?_; (case ho => rfl); (case hg => rfl); (case hn => rfl); (case hr => first | (go_simp; done) | (go_simp; rfl)); intro jH hw; have hg : wc.grownBy jH (some go72) := (by rw [hw]; exact qR.2); have hp_ : Kd.R (Kd.int .i64) 3 jH w.heap.size (fun _ => True) (.slice (some ⟨go72, 0, none⟩) qa.length z8) y127 := (by rw [hw, Ny127.out]; exact qR.1); clear qR; replace qd := Aside0.mk (blk_grown (g := qh) (o := .cells #[.slice none 0 0, .int .i64 0, .bool false] 27 (0, 0)) (kf_ qd) hg (Kd.R_ne qb.out qd.out (by decide))); replace qc := Aside0.mk (blk_grown (g := qf) (o := .cells #[.slice (some ⟨go72, 0, none⟩) qa.length z8, .int .i64 qe, .bool false] 27 (0, 0)) (kf_ qc) hg (Kd.R_ne qb.out qc.out (by decide))); replace qb := Aside0.mk (hp_); replace HB := Aside0.mk ((by rw [hw]; exact below_set (HB.out) Qg.out : Below w.heap.size w jH)); clear hg hw hp_)))
                        go_roundg kj49
                        case measure => have := HJ2.out; have := HK2.out; have := HJ16.out; have := HK4.out; have := HJ29.out; have := HJ49.out; omega
                        case rel => exact ⟨(0), (qi), (false), (wrap64 (qg + 1)), (y127), (qe), (.slice (some ⟨go72, 0, none⟩) qa.length z8), (by first | rfl | (simp; done) | (simp [*]; done)), (by first | rfl | (simp; done) | (simp [*]; done)), (by first | rfl | (simp; done) | (simp [*]; done)), (by first | rfl | (simp; done) | (simp [*]; done)), H', ⟨by have := HJ2.out; have := HK2.out; have := HJ16.out; have := HK4.out; have := HJ29.out; have := HJ49.out; omega⟩, ⟨by (with_reducible repeat (first | apply Kd.R_alloc | apply Kd.R_drewN | apply Kd.R_drew)); exact qb.out⟩, ⟨kf_ qd⟩, ⟨kf_ qc⟩, ⟨bb_ HB⟩⟩
                       ·
                        rw [if_neg c71] at H
                        exact absurd H (by simp)
                      ·
                       rw [if_neg c70] at H
                       exact absurd H (by simp)
                    ·
                     rw [if_neg c61] at H
                     have Qt : decide (0 ≤ qk) = false := decide_eq_false c61
                     clear c61
                     have H' := Aside0.mk H
                     clear H
                     go_wp2
                     repeat (go_quiet (fail); try go_wp2)
                     go_roundg kj49
                     case measure => have := HJ2.out; have := HK2.out; have := HJ16.out; have := HK4.out; have := HJ29.out; have := HJ49.out; omega
                     case rel => exact ⟨(qj), (qi), (qK), (wrap64 (qg + 1)), (qa), (qe), (u126000), (by first | rfl | (simp; done) | (simp [*]; done)), (by first | rfl | (simp; done) | (simp [*]; done)), (by first | rfl | (simp; done) | (simp [*]; done)), (by first | rfl | (simp; done) | (simp [*]; done)), H', ⟨by have := HJ2.out; have := HK2.out; have := HJ16.out; have := HK4.out; have := HJ29.out; have := HJ49.out; omega⟩, ⟨by (with_reducible repeat (first | apply Kd.R_alloc | apply Kd.R_drewN | apply Kd.R_drew)); exact qb.out⟩, ⟨kf_ qd⟩, ⟨kf_ qc⟩, ⟨bb_ HB⟩⟩
          ·
           replace c21 := Bool.eq_false_iff.mpr c21
           subst c21
           have H1 : (if qK = true then (if (a0.size : Int) > 2 then (if 0 ≤ (wrap64 ((a0.size : Int) - 2)) then (if (wrap64 ((a0.size : Int) - 2)) < (a0.size : Int) then ((spec_FormatAtom.f kj16 qa (wrap64 (qi * qj)) ((bt a0 (wrap64 ((a0.size : Int) - 2))) == 60)).bind fun qs => (if qs.toList = a0.toList then (some (qa, wrap64 (qi * qj), ((bt a0 (wrap64 ((a0.size : Int) - 2))) == 60), true)) else (some (([] : List Int), 0, false, false)))) else (none)) else (none)) else ((spec_FormatAtom.f kj16 qa (wrap64 (qi * qj)) false).bind fun qI => (if qI.toList = a0.toList then (some (qa, wrap64 (qi * qj), false, true)) else (some (([] : List Int), 0, false, false))))) else (if (a0.size : Int) > 2 then (if 0 ≤ (wrap64 ((a0.size : Int) - 2)) then (if (wrap64 ((a0.size : Int) - 2)) < (a0.size : Int) then ((spec_FormatAtom.f kj16 qa qe ((bt a0 (wrap64 ((a0.size : Int) - 2))) == 60)).bind fun qt => (if qt.toList = a0.toList then (some (qa, qe, ((bt a0 (wrap64 ((a0.size : Int) - 2))) == 60), true)) else (some (([] : List Int), 0, false, false)))) else (none)) else (none)) else ((spec_FormatAtom.f kj16 qa qe false).bind fun qJ => (if qJ.toList = a0.toList then (some (qa, qe, false, true)) else (some (([] : List Int), 0, false, false)))))) = some (r1, r2, r3, r4) := by rw [if_neg (show ¬ (false = true) by decide)] at H; exact H
           clear H
           have H := H1
           clear H1
           by_cases c77 : qK = true
           ·
            subst c77
            have H1 : (if (a0.size : Int) > 2 then (if 0 ≤ (wrap64 ((a0.size : Int) - 2)) then (if (wrap64 ((a0.size : Int) - 2)) < (a0.size : Int) then ((spec_FormatAtom.f kj16 qa (wrap64 (qi * qj)) ((bt a0 (wrap64 ((a0.size : Int) - 2))) == 60)).bind fun qs => (if qs.toList = a0.toList then (some (qa, wrap64 (qi * qj), ((bt a0 (wrap64 ((a0.size : Int) - 2))) == 60), true)) else (some (([] : List Int), 0, false, false)))) else (none)) else (none)) else ((spec_FormatAtom.f kj16 qa (wrap64 (qi * qj)) false).bind fun qI => (if qI.toList = a0.toList then (some (qa, wrap64 (qi * qj), false, true)) else (some (([] : List Int), 0, false, false))))) = some (r1, r2, r3, r4) := by rw [if_pos rfl] at H; exact H
            clear H
            have H := H1
            clear H1
            by_cases c78 : (a0.size : Int) > 2
            ·
             rw [if_pos c78] at H
             have Qw : decide (2 < (a0.size : Int)) = true := decide_eq_true c78
             have Qx : decide (2 < a0.size) = true := decide_eq_true (by omega)
             clear c78
             obtain ⟨ji79, hji79⟩ : ∃ j_ : Int, (wrap64 ((a0.size : Int) - 2)) = j_ := ⟨_, rfl⟩
             replace H : (if 0 ≤ (ji79) then (if (ji79) < (a0.size : Int) then ((spec_FormatAtom.f kj16 qa (wrap64 (qi * qj)) ((bt a0 (ji79)) == 60)).bind fun qs => (if qs.toList = a0.toList then (some (qa, wrap64 (qi * qj), ((bt a0 (ji79)) == 60), true)) else (some (([] : List Int), 0, false, false)))) else (none)) else (none)) = some (r1, r2, r3, r4) := by first | (rw [hji79] at H; exact H) | (simp only [hji79] at H ⊢; exact H)
             have hji79w : (IntKind.i64.wrap ((a0.size : Int) - 2)) = ji79 := (i64_w _).trans hji79
             by_cases c80 : 0 ≤ (ji79)
             ·
              rw [if_pos c80] at H
              have Z3 : decide (0 ≤ (ji79)) = true := decide_eq_true c80
              clear c80
              by_cases c81 : (ji79) < (a0.size : Int)
              ·
               rw [if_pos c81] at H
               have Z4 : decide ((ji79) < (a0.size : Int)) = true := decide_eq_true c81
               clear c81
               replace H := Option.bind_eq_some_iff.mp H
               obtain ⟨qs, A830, H⟩ := H
               replace H : (if qs.toList = a0.toList then (some (qa, wrap64 (qi * qj), ((bt a0 (ji79)) == 60), true)) else (some (([] : List Int), 0, false, false))) = some (r1, r2, r3, r4) := H
               have A83 := Aside0.mk A830
               clear A830
               by_cases c84 : qs.toList = a0.toList
               ·
                rw [if_pos c84] at H
                have Qy : (qs.toList == a0.toList) = true := beq_iff_eq.mpr c84
                have Qz : (qs.toList != a0.toList) = false := bne_eq_false_iff_eq.mpr c84
                clear c84
                simp only [Option.some.injEq, Prod.mk.injEq] at H
                obtain ⟨rfl, rfl, rfl, rfl⟩ := H
                have Z5 := qm.out
                have Z6 := ql.out
                have Zi : wc.cell? ⟨qf, 0, none⟩ = some (u126000) := bc_ qc 0
                have Zj : wc.cell? ⟨qf, 1, none⟩ = some (.int .i64 qe) := bc_ qc 1
                have Zk : wc.cell? ⟨qf, 2, none⟩ = some (.bool false) := bc_ qc 2
                have Zl := blk_frozen qc.out 0
                have Zm := blk_frozen qc.out 1
                have Zn := blk_frozen qc.out 2
                have p82 : 0 ≤ ((ji79) : Int) := of_decide_eq_true (by first | (with_reducible assumption) | assumption)
                have q82 : (ji79) < (a0.size : Int) := of_decide_eq_true (by first | (with_reducible assumption) | assumption)
                have hx82 := bt_at a0 (ji79)
                replace p82 := eq_true p82
                replace q82 := eq_true q82
                obtain ⟨qL, qF, eo87⟩ := Kd.R_slice qb.out
                subst eo87
                go_wp2_with (first | (go_at_call 12; (with_reducible refine (spec_FormatAtom.calls kj16 _ _ qa (wrap64 (qi * qj)) ((bt a0 (ji79)) == 60) qs _ ?side1 ?side2 A83.out).mono ?_); (case side1 => refine (Kd.R_reads' (e := 3) (base := w.heap.size) (ok := fun k_ => True) (n := qa.length) (c := qF) ?_).2.2; exact (by (with_reducible repeat (first | apply Kd.R_alloc | apply Kd.R_drewN | apply Kd.R_drew)); exact (Kd.R_mono (Kd.R_far (p := ⟨qf, 2, none⟩) (Kd.R_far (p := ⟨qf, 1, none⟩) (Kd.R_types qb.out qc.out (by decide)) (fun _ hk => hk.2) (.int .i64 (wrap64 (qi * qj)))) (fun _ hk => hk.2) (.bool ((bt a0 (ji79)) == 60))) (fun _ h_ => h_.1)))); (case side2 => exact (Kd.R_reads' qb.out).2.1); rintro e q6 ⟨rfl, hb⟩; replace qb := Aside0.mk (Kd.R_below (by (with_reducible repeat (first | apply Kd.R_alloc | apply Kd.R_drewN | apply Kd.R_drew)); exact (Kd.R_mono (Kd.R_far (p := ⟨qf, 2, none⟩) (Kd.R_far (p := ⟨qf, 1, none⟩) (Kd.R_types qb.out qc.out (by decide)) (fun _ hk => hk.2) (.int .i64 (wrap64 (qi * qj)))) (fun _ hk => hk.2) (.bool ((bt a0 (ji79)) == 60))) (fun _ h_ => h_.1))) hb); replace qd := Aside0.mk (blk_below (g := qh) (o := .cells #[.slice none 0 0, .int .i64 0, .bool false] 27 (0, 0)) (kf_ qd) hb); replace qc := Aside0.mk (blk_below (g := qf) (o := .cells #[.slice qL qa.length qF, .int .i64 (wrap64 (qi * qj)), .bool ((bt a0 (ji79)) == 60)] 27 (0, 0)) (by (with_reducible repeat (first | refine blk_drewN ?_ _ | refine blk_drew ?_ | refine blk_alloc ?_ _)); refine blk_put (cs := #[.slice qL qa.length qF, .int .i64 (wrap64 (qi * qj)), .bool false]) ?_ 2 _ rfl; (with_reducible repeat (first | refine blk_drewN ?_ _ | refine blk_drew ?_ | refine blk_alloc ?_ _)); refine blk_put (cs := #[.slice qL qa.length qF, .int .i64 qe, .bool false]) ?_ 1 _ rfl; (with_reducible repeat (first | refine blk_drewN ?_ _ | refine blk_drew ?_ | refine blk_alloc ?_ _)); exact qc.out) hb); replace HB := bS_ HB hb; (try clear hb); (try clear hb2); (try clear hk); (try clear hi); have jc : q6.cell? ⟨qf, 0, none⟩ = some (.slice qL qa.length qF) := bc_ qc 0; have jd : q6.cell? ⟨qf, 1, none⟩ = some (.int .i64 (wrap64 (qi * qj))) := bc_ qc 1; have je : q6.cell? ⟨qf, 2, none⟩ = some (.bool ((bt a0 (ji79)) == 60)) := bc_ qc 2; have jf := blk_frozen qc.out 0; have jg := blk_frozen qc.out 1; have jh := blk_frozen qc.out 2; have ji : q6.cell? ⟨qh, 0, none⟩ = some (.slice none 0 0) := bc_ qd 0; have jj : q6.cell? ⟨qh, 1, none⟩ = some (.int .i64 0) := bc_ qd 1; have jk : q6.cell? ⟨qh, 2, none⟩ = some (.bool false) := bc_ qd 2; have jl := blk_frozen qd.out 0; have jm := blk_frozen qd.out 1; have jn := blk_frozen qd.out 2))
                repeat (go_quiet (first | (go_at_call 12; (with_reducible refine (spec_FormatAtom.calls kj16 _ _ qa (wrap64 (qi * qj)) ((bt a0 (ji79)) == 60) qs _ ?side1 ?side2 A83.out).mono ?_); (case side1 => refine (Kd.R_reads' (e := 3) (base := w.heap.size) (ok := fun k_ => True) (n := qa.length) (c := qF) ?_).2.2; exact (by (with_reducible repeat (first | apply Kd.R_alloc | apply Kd.R_drewN | apply Kd.R_drew)); exact (Kd.R_mono (Kd.R_far (p := ⟨qf, 2, none⟩) (Kd.R_far (p := ⟨qf, 1, none⟩) (Kd.R_types qb.out qc.out (by decide)) (fun _ hk => hk.2) (.int .i64 (wrap64 (qi * qj)))) (fun _ hk => hk.2) (.bool ((bt a0 (ji79)) == 60))) (fun _ h_ => h_.1)))); (case side2 => exact (Kd.R_reads' qb.out).2.1); rintro e q6 ⟨rfl, hb⟩; replace qb := Aside0.mk (Kd.R_below (by (with_reducible repeat (first | apply Kd.R_alloc | apply Kd.R_drewN | apply Kd.R_drew)); exact (Kd.R_mono (Kd.R_far (p := ⟨qf, 2, none⟩) (Kd.R_far (p := ⟨qf, 1, none⟩) (Kd.R_types qb.out qc.out (by decide)) (fun _ hk => hk.2) (.int .i64 (wrap64 (qi * qj)))) (fun _ hk => hk.2) (.bool ((bt a0 (ji79)) == 60))) (fun _ h_ => h_.1))) hb); replace qd := Aside0.mk (blk_below (g := qh) (o := .cells #[.slice none 0 0, .int .i64 0, .bool false] 27 (0, 0)) (kf_ qd) hb); replace qc := Aside0.mk (blk_below (g := qf) (o := .cells #[.slice qL qa.length qF, .int .i64 (wrap64 (qi * qj)), .bool ((bt a0 (ji79)) == 60)] 27 (0, 0)) (by (with_reducible repeat (first | refine blk_drewN ?_ _ | refine blk_drew ?_ | refine blk_alloc ?_ _)); refine blk_put (cs := #[.slice qL qa.length qF, .int .i64 (wrap64 (qi * qj)), .bool false]) ?_ 2 _ rfl; (with_reducible repeat (first | refine blk_drewN ?_ _ | refine blk_drew ?_ | refine blk_alloc ?_ _)); refine blk_put (cs := #[.slice qL qa.length qF, .int .i64 qe, .bool false]) ?_ 1 _ rfl; (with_reducible repeat (first | refine blk_drewN ?_ _ | refine blk_drew ?_ | refine blk_alloc ?_ _)); exact qc.out) hb); replace HB := bS_ HB hb; (try clear hb); (try clear hb2); (try clear hk); (try clear hi); have jc : q6.cell? ⟨qf, 0, none⟩ = some (.slice qL qa.length qF) := bc_ qc 0; have jd : q6.cell? ⟨qf, 1, none⟩ = some (.int .i64 (wrap64 (qi * qj))) := bc_ qc 1; have je : q6.cell? ⟨qf, 2, none⟩ = some (.bool ((bt a0 (ji79)) == 60)) := bc_ qc 2; have jf := blk_frozen qc.out 0; have jg := blk_frozen qc.out 1; have jh := blk_frozen qc.out 2; have ji : q6.cell? ⟨qh, 0, none⟩ = some (.slice none 0 0) := bc_ qd 0; have jj : q6.cell? ⟨qh, 1, none⟩ = some (.int .i64 0) := bc_ qd 1; have jk : q6.cell? ⟨qh, 2, none⟩ = some (.bool false) := bc_ qd 2; have jl := blk_frozen qd.out 0; have jm := blk_frozen qd.out 1; have jn := blk_frozen qd.out 2)); try go_wp2_with (first | (go_at_call 12; (with_reducible refine (spec_FormatAtom.calls kj16 _ _ qa (wrap64 (qi * qj)) ((bt a0 (ji79)) == 60) qs _ ?side1 ?side2 A83.out).mono ?_); (case side1 => refine (Kd.R_reads' (e := 3) (base := w.heap.size) (ok := fun k_ => True) (n := qa.length) (c := qF) ?_).2.2; exact (by (with_reducible repeat (first | apply Kd.R_alloc | apply Kd.R_drewN | apply Kd.R_drew)); exact (Kd.R_mono (Kd.R_far (p := ⟨qf, 2, none⟩) (Kd.R_far (p := ⟨qf, 1, none⟩) (Kd.R_types qb.out qc.out (by decide)) (fun _ hk => hk.2) (.int .i64 (wrap64 (qi * qj)))) (fun _ hk => hk.2) (.bool ((bt a0 (ji79)) == 60))) (fun _ h_ => h_.1)))); (case side2 => exact (Kd.R_reads' qb.out).2.1); rintro e q6 ⟨rfl, hb⟩; replace qb := Aside0.mk (Kd.R_below (by (with_reducible repeat (first | apply Kd.R_alloc | apply Kd.R_drewN | apply Kd.R_drew)); exact (Kd.R_mono (Kd.R_far (p := ⟨qf, 2, none⟩) (Kd.R_far (p := ⟨qf, 1, none⟩) (Kd.R_types qb.out qc.out (by decide)) (fun _ hk => hk.2) (.int .i64 (wrap64 (qi * qj)))) (fun _ hk => hk.2) (.bool ((bt a0 (ji79)) == 60))) (fun _ h_ => h_.1))) hb); replace qd := Aside0.mk (blk_below (g := qh) (o := .cells #[.slice none 0 0, .int .i64 0, .bool false] 27 (0, 0)) (kf_ qd) hb); replace qc := Aside0.mk (blk_below (g := qf) (o := .cells #[.slice qL qa.length qF, .int .i64 (wrap64 (qi * qj)), .bool ((bt a0 (ji79)) == 60)] 27 (0, 0)) (by (with_reducible repeat (first | refine blk_drewN ?_ _ | refine blk_drew ?_ | refine blk_alloc ?_ _)); refine blk_put (cs := #[.slice qL qa.length qF, .int .i64 (wrap64 (qi * qj)), .bool false]) ?_ 2 _ rfl; (with_reducible repeat (first | refine blk_drewN ?_ _ | refine blk_drew ?_ | refine blk_alloc ?_ _)); refine blk_put (cs := #[.slice qL qa.length qF, .int .i64 qe, .bool false]) ?_ 1 _ rfl; (with_reducible repeat (first | refine blk_drewN ?_ _ | refine blk_drew ?_ | refine blk_alloc ?_ _)); exact qc.out) hb); replace HB := bS_ HB hb; (try clear hb); (try clear hb2); (try clear hk); (try clear hi); have jc : q6.cell? ⟨qf, 0, none⟩ = some (.slice qL qa.length qF) := bc_ qc 0; have jd : q6.cell? ⟨qf, 1, none⟩ = some (.int .i64 (wrap64 (qi * qj))) := bc_ qc 1; have je : q6.cell? ⟨qf, 2, none⟩ = some (.bool ((bt a0 (ji79)) == 60)) := bc_ qc 2; have jf := blk_frozen qc.out 0; have jg := blk_frozen qc.out 1; have jh := blk_frozen qc.out 2; have ji : q6.cell? ⟨qh, 0, none⟩ = some (.slice none 0 0) := bc_ qd 0; have jj : q6.cell? ⟨qh, 1, none⟩ = some (.int .i64 0) := bc_ qd 1; have jk : q6.cell? ⟨qh, 2, none⟩ = some (.bool false) := bc_ qd 2; have jl := blk_frozen qd.out 0; have jm := blk_frozen qd.out 1; have jn := blk_frozen qd.out 2)))
                refine bodyPost_ret (results_ct rfl _ _ qh 27 #[.slice qL qa.length qF, .int .i64 (wrap64 (qi * qj)), .bool ((bt a0 (ji79)) == 60)] (0, 0) _ rfl (by (with_reducible repeat (first | refine blk_drewN ?_ _ | refine blk_drew ?_ | refine blk_alloc ?_ _)); refine blk_put (cs := #[.slice qL qa.length qF, .int .i64 (wrap64 (qi * qj)), .bool false]) ?_ 2 _ rfl; (with_reducible repeat (first | refine blk_drewN ?_ _ | refine blk_drew ?_ | refine blk_alloc ?_ _)); refine blk_put (cs := #[.slice qL qa.length qF, .int .i64 0, .bool false]) ?_ 1 _ rfl; (with_reducible repeat (first | refine blk_drewN ?_ _ | refine blk_drew ?_ | refine blk_alloc ?_ _)); refine blk_put (cs := #[.slice none 0 0, .int .i64 0, .bool false]) ?_ 0 _ rfl; (with_reducible repeat (first | refine blk_drewN ?_ _ | refine blk_drew ?_ | refine blk_alloc ?_ _)); exact qd.out) Tryd.underlying27 rfl (by kernel_rfl)) rfl ?_
                exact ⟨_, by first | rfl | (simp [errW_none, errW_some] <;> rfl) | (simp only [← hji79]; first | rfl | (simp [errW_none, errW_some] <;> rfl)) | (simp [*, errW_none, errW_some] <;> rfl), by (with_reducible repeat (first | apply Kd.R_alloc | apply Kd.R_drewN | apply Kd.R_drew)); exact Kd.R_mono (Kd.R_far (p := ⟨qh, 2, none⟩) (Kd.R_far (p := ⟨qh, 1, none⟩) (Kd.R_far (p := ⟨qh, 0, none⟩) (Kd.R_types qb.out qd.out (by decide)) (fun _ hk => hk.2) (.slice qL qa.length qF)) (fun _ hk => hk.2) (.int .i64 (wrap64 (qi * qj)))) (fun _ hk => hk.2) (.bool ((bt a0 (ji79)) == 60))) (fun _ hk => trivial), bb_ HB⟩
               ·
                rw [if_neg c84] at H
                have Qy : (qs.toList == a0.toList) = false := beq_eq_false_iff_ne.mpr c84
                have Qz : (qs.toList != a0.toList) = true := bne_iff_ne.mpr c84
                simp only [Option.some.injEq, Prod.mk.injEq] at H
                obtain ⟨rfl, rfl, rfl, rfl⟩ := H
                have Z7 := qm.out
                have Z8 := ql.out
                have Zo : wc.cell? ⟨qf, 0, none⟩ = some (u126000) := bc_ qc 0
                have Zp : wc.cell? ⟨qf, 1, none⟩ = some (.int .i64 qe) := bc_ qc 1
                have Zq : wc.cell? ⟨qf, 2, none⟩ = some (.bool false) := bc_ qc 2
                have Zr := blk_frozen qc.out 0
                have Zs := blk_frozen qc.out 1
                have Zt := blk_frozen qc.out 2
                have p82 : 0 ≤ ((ji79) : Int) := of_decide_eq_true (by first | (with_reducible assumption) | assumption)
                have q82 : (ji79) < (a0.size : Int) := of_decide_eq_true (by first | (with_reducible assumption) | assumption)
                have hx82 := bt_at a0 (ji79)
                replace p82 := eq_true p82
                replace q82 := eq_true q82
                obtain ⟨zc, qS, eo93⟩ := Kd.R_slice qb.out
                subst eo93
                go_wp2_with (first | (go_at_call 12; (with_reducible refine (spec_FormatAtom.calls kj16 _ _ qa (wrap64 (qi * qj)) ((bt a0 (ji79)) == 60) qs _ ?side1 ?side2 A83.out).mono ?_); (case side1 => refine (Kd.R_reads' (e := 3) (base := w.heap.size) (ok := fun k_ => True) (n := qa.length) (c := qS) ?_).2.2; exact (by (with_reducible repeat (first | apply Kd.R_alloc | apply Kd.R_drewN | apply Kd.R_drew)); exact (Kd.R_mono (Kd.R_far (p := ⟨qf, 2, none⟩) (Kd.R_far (p := ⟨qf, 1, none⟩) (Kd.R_types qb.out qc.out (by decide)) (fun _ hk => hk.2) (.int .i64 (wrap64 (qi * qj)))) (fun _ hk => hk.2) (.bool ((bt a0 (ji79)) == 60))) (fun _ h_ => h_.1)))); (case side2 => exact (Kd.R_reads' qb.out).2.1); rintro e jI ⟨rfl, hb⟩; replace qb := Aside0.mk (Kd.R_below (by (with_reducible repeat (first | apply Kd.R_alloc | apply Kd.R_drewN | apply Kd.R_drew)); exact (Kd.R_mono (Kd.R_far (p := ⟨qf, 2, none⟩) (Kd.R_far (p := ⟨qf, 1, none⟩) (Kd.R_types qb.out qc.out (by decide)) (fun _ hk => hk.2) (.int .i64 (wrap64 (qi * qj)))) (fun _ hk => hk.2) (.bool ((bt a0 (ji79)) == 60))) (fun _ h_ => h_.1))) hb); replace qd := Aside0.mk (blk_below (g := qh) (o := .cells #[.slice none 0 0, .int .i64 0, .bool false] 27 (0, 0)) (kf_ qd) hb); replace qc := Aside0.mk (blk_below (g := qf) (o := .cells #[.slice zc qa.length qS, .int .i64 (wrap64 (qi * qj)), .bool ((bt a0 (ji79)) == 60)] 27 (0, 0)) (by (with_reducible repeat (first | refine blk_drewN ?_ _ | refine blk_drew ?_ | refine blk_alloc ?_ _)); refine blk_put (cs := #[.slice zc qa.length qS, .int .i64 (wrap64 (qi * qj)), .bool false]) ?_ 2 _ rfl; (with_reducible repeat (first | refine blk_drewN ?_ _ | refine blk_drew ?_ | refine blk_alloc ?_ _)); refine blk_put (cs := #[.slice zc qa.length qS, .int .i64 qe, .bool false]) ?_ 1 _ rfl; (with_reducible repeat (first | refine blk_drewN ?_ _ | refine blk_drew ?_ | refine blk_alloc ?_ _)); exact qc.out) hb); replace HB := bS_ HB hb; (try clear hb); (try clear hb2); (try clear hk); (try clear hi); have jo : jI.cell? ⟨qh, 0, none⟩ = some (.slice none 0 0) := bc_ qd 0; have jp : jI.cell? ⟨qh, 1, none⟩ = some (.int .i64 0) := bc_ qd 1; have jq : jI.cell? ⟨qh, 2, none⟩ = some (.bool false) := bc_ qd 2; have jr := blk_frozen qd.out 0; have js := blk_frozen qd.out 1; have jt := blk_frozen qd.out 2))
                repeat (go_quiet (first | (go_at_call 12; (with_reducible refine (spec_FormatAtom.calls kj16 _ _ qa (wrap64 (qi * qj)) ((bt a0 (ji79)) == 60) qs _ ?side1 ?side2 A83.out).mono ?_); (case side1 => refine (Kd.R_reads' (e := 3) (base := w.heap.size) (ok := fun k_ => True) (n := qa.length) (c := qS) ?_).2.2; exact (by (with_reducible repeat (first | apply Kd.R_alloc | apply Kd.R_drewN | apply Kd.R_drew)); exact (Kd.R_mono (Kd.R_far (p := ⟨qf, 2, none⟩) (Kd.R_far (p := ⟨qf, 1, none⟩) (Kd.R_types qb.out qc.out (by decide)) (fun _ hk => hk.2) (.int .i64 (wrap64 (qi * qj)))) (fun _ hk => hk.2) (.bool ((bt a0 (ji79)) == 60))) (fun _ h_ => h_.1)))); (case side2 => exact (Kd.R_reads' qb.out).2.1); rintro e jI ⟨rfl, hb⟩; replace qb := Aside0.mk (Kd.R_below (by (with_reducible repeat (first | apply Kd.R_alloc | apply Kd.R_drewN | apply Kd.R_drew)); exact (Kd.R_mono (Kd.R_far (p := ⟨qf, 2, none⟩) (Kd.R_far (p := ⟨qf, 1, none⟩) (Kd.R_types qb.out qc.out (by decide)) (fun _ hk => hk.2) (.int .i64 (wrap64 (qi * qj)))) (fun _ hk => hk.2) (.bool ((bt a0 (ji79)) == 60))) (fun _ h_ => h_.1))) hb); replace qd := Aside0.mk (blk_below (g := qh) (o := .cells #[.slice none 0 0, .int .i64 0, .bool false] 27 (0, 0)) (kf_ qd) hb); replace qc := Aside0.mk (blk_below (g := qf) (o := .cells #[.slice zc qa.length qS, .int .i64 (wrap64 (qi * qj)), .bool ((bt a0 (ji79)) == 60)] 27 (0, 0)) (by (with_reducible repeat (first | refine blk_drewN ?_ _ | refine blk_drew ?_ | refine blk_alloc ?_ _)); refine blk_put (cs := #[.slice zc qa.length qS, .int .i64 (wrap64 (qi * qj)), .bool false]) ?_ 2 _ rfl; (with_reducible repeat (first | refine blk_drewN ?_ _ | refine blk_drew ?_ | refine blk_alloc ?_ _)); refine blk_put (cs := #[.slice zc qa.length qS, .int .i64 qe, .bool false]) ?_ 1 _ rfl; (with_reducible repeat (first | refine blk_drewN ?_ _ | refine blk_drew ?_ | refine blk_alloc ?_ _)); exact qc.out) hb); replace HB := bS_ HB hb; (try clear hb); (try clear hb2); (try clear hk); (try clear hi); have jo : jI.cell? ⟨qh, 0, none⟩ = some (.slice none 0 0) := bc_ qd 0; have jp : jI.cell? ⟨qh, 1, none⟩ = some (.int .i64 0) := bc_ qd 1; have jq : jI.cell? ⟨qh, 2, none⟩ = some (.bool false) := bc_ qd 2; have jr := blk_frozen qd.out 0; have js := blk_frozen qd.out 1; have jt := blk_frozen qd.out 2)); try go_wp2_with (first | (go_at_call 12; (with_reducible refine (spec_FormatAtom.calls kj16 _ _ qa (wrap64 (qi * qj)) ((bt a0 (ji79)) == 60) qs _ ?side1 ?side2 A83.out).mono ?_); (case side1 => refine (Kd.R_reads' (e := 3) (base := w.heap.size) (ok := fun k_ => True) (n := qa.length) (c := qS) ?_).2.2; exact (by (with_reducible repeat (first | apply Kd.R_alloc | apply Kd.R_drewN | apply Kd.R_drew)); exact (Kd.R_mono (Kd.R_far (p := ⟨qf, 2, none⟩) (Kd.R_far (p := ⟨qf, 1, none⟩) (Kd.R_types qb.out qc.out (by decide)) (fun _ hk => hk.2) (.int .i64 (wrap64 (qi * qj)))) (fun _ hk => hk.2) (.bool ((bt a0 (ji79)) == 60))) (fun _ h_ => h_.1)))); (case side2 => exact (Kd.R_reads' qb.out).2.1); rintro e jI ⟨rfl, hb⟩; replace qb := Aside0.mk (Kd.R_below (by (with_reducible repeat (first | apply Kd.R_alloc | apply Kd.R_drewN | apply Kd.R_drew)); exact (Kd.R_mono (Kd.R_far (p := ⟨qf, 2, none⟩) (Kd.R_far (p := ⟨qf, 1, none⟩) (Kd.R_types qb.out qc.out (by decide)) (fun _ hk => hk.2) (.int .i64 (wrap64 (qi * qj)))) (fun _ hk => hk.2) (.bool ((bt a0 (ji79)) == 60))) (fun _ h_ => h_.1))) hb); replace qd := Aside0.mk (blk_below (g := qh) (o := .cells #[.slice none 0 0, .int .i64 0, .bool false] 27 (0, 0)) (kf_ qd) hb); replace qc := Aside0.mk (blk_below (g := qf) (o := .cells #[.slice zc qa.length qS, .int .i64 (wrap64 (qi * qj)), .bool ((bt a0 (ji79)) == 60)] 27 (0, 0)) (by (with_reducible repeat (first | refine blk_drewN ?_ _ | refine blk_drew ?_ | refine blk_alloc ?_ _)); refine blk_put (cs := #[.slice zc qa.length qS, .int .i64 (wrap64 (qi * qj)), .bool false]) ?_ 2 _ rfl; (with_reducible repeat (first | refine blk_drewN ?_ _ | refine blk_drew ?_ | refine blk_alloc ?_ _)); refine blk_put (cs := #[.slice zc qa.length qS, .int .i64 qe, .bool false]) ?_ 1 _ rfl; (with_reducible repeat (first | refine blk_drewN ?_ _ | refine blk_drew ?_ | refine blk_alloc ?_ _)); exact qc.out) hb); replace HB := bS_ HB hb; (try clear hb); (try clear hb2); (try clear hk); (try clear hi); have jo : jI.cell? ⟨qh, 0, none⟩ = some (.slice none 0 0) := bc_ qd 0; have jp : jI.cell? ⟨qh, 1, none⟩ = some (.int .i64 0) := bc_ qd 1; have jq : jI.cell? ⟨qh, 2, none⟩ = some (.bool false) := bc_ qd 2; have jr := blk_frozen qd.out 0; have js := blk_frozen qd.out 1; have jt := blk_frozen qd.out 2)))
                refine bodyPost_ret (results_ct rfl _ _ qh 27 #[.slice none 0 0, .int .i64 0, .bool false] (0, 0) _ rfl (by (with_reducible repeat (first | refine blk_drewN ?_ _ | refine blk_drew ?_ | refine blk_alloc ?_ _)); refine blk_put (cs := #[.slice none 0 0, .int .i64 0, .bool false]) ?_ 2 _ rfl; (with_reducible repeat (first | refine blk_drewN ?_ _ | refine blk_drew ?_ | refine blk_alloc ?_ _)); refine blk_put (cs := #[.slice none 0 0, .int .i64 0, .bool false]) ?_ 1 _ rfl; (with_reducible repeat (first | refine blk_drewN ?_ _ | refine blk_drew ?_ | refine blk_alloc ?_ _)); refine blk_put (cs := #[.slice none 0 0, .int .i64 0, .bool false]) ?_ 0 _ rfl; (with_reducible repeat (first | refine blk_drewN ?_ _ | refine blk_drew ?_ | refine blk_alloc ?_ _)); exact qd.out) Tryd.underlying27 rfl (by kernel_rfl)) rfl ?_
                exact ⟨_, by first | rfl | (simp [errW_none, errW_some] <;> rfl) | (simp only [← hji79]; first | rfl | (simp [errW_none, errW_some] <;> rfl)) | (simp [*, errW_none, errW_some] <;> rfl), by first | exact Kd.R_nil _ _ _ _ _ | exact Kd.N_nil _ _ _ _ _ | exact Kd.V_nil _ _ _ _ _ | exact Kd.Q_nil _ _ _ _ _ | exact Kd.S_nil _ _ _ _ _, bb_ HB⟩
              ·
               rw [if_neg c81] at H
               exact absurd H (by simp)
             ·
              rw [if_neg c80] at H
              exact absurd H (by simp)
            ·
             rw [if_neg c78] at H
             have Qw : decide (2 < (a0.size : Int)) = false := decide_eq_false c78
             have Qx : decide (2 < a0.size) = false := decide_eq_false (by omega)
             clear c78
             replace H := Option.bind_eq_some_iff.mp H
             obtain ⟨qI, A960, H⟩ := H
             replace H : (if qI.toList = a0.toList then (some (qa, wrap64 (qi * qj), false, true)) else (some (([] : List Int), 0, false, false))) = some (r1, r2, r3, r4) := H
             have A96 := Aside0.mk A960
             clear A960
             by_cases c97 : qI.toList = a0.toList
             ·
              rw [if_pos c97] at H
              have QA : (qI.toList == a0.toList) = true := beq_iff_eq.mpr c97
              have QB : (qI.toList != a0.toList) = false := bne_eq_false_iff_eq.mpr c97
              clear c97
              simp only [Option.some.injEq, Prod.mk.injEq] at H
              obtain ⟨rfl, rfl, rfl, rfl⟩ := H
              have Z9 := qm.out
              have Ja := ql.out
              have Zu : wc.cell? ⟨qf, 0, none⟩ = some (u126000) := bc_ qc 0
              have Zv : wc.cell? ⟨qf, 1, none⟩ = some (.int .i64 qe) := bc_ qc 1
              have Zw : wc.cell? ⟨qf, 2, none⟩ = some (.bool false) := bc_ qc 2
              have Zx := blk_frozen qc.out 0
              have Zy := blk_frozen qc.out 1
              have Zz := blk_frozen qc.out 2
              obtain ⟨qp, qo, eo100⟩ := Kd.R_slice qb.out
              subst eo100
              go_wp2_with (first | (go_at_call 12; (with_reducible refine (spec_FormatAtom.calls kj16 _ _ qa (wrap64 (qi * qj)) false qI _ ?side1 ?side2 A96.out).mono ?_); (case side1 => refine (Kd.R_reads' (e := 3) (base := w.heap.size) (ok := fun k_ => True) (n := qa.length) (c := qo) ?_).2.2; exact (by (with_reducible repeat (first | apply Kd.R_alloc | apply Kd.R_drewN | apply Kd.R_drew)); exact (Kd.R_mono (Kd.R_far (p := ⟨qf, 2, none⟩) (Kd.R_far (p := ⟨qf, 1, none⟩) (Kd.R_types qb.out qc.out (by decide)) (fun _ hk => hk.2) (.int .i64 (wrap64 (qi * qj)))) (fun _ hk => hk.2) (.bool false)) (fun _ h_ => h_.1)))); (case side2 => exact (Kd.R_reads' qb.out).2.1); rintro e qu ⟨rfl, hb⟩; replace qb := Aside0.mk (Kd.R_below (by (with_reducible repeat (first | apply Kd.R_alloc | apply Kd.R_drewN | apply Kd.R_drew)); exact (Kd.R_mono (Kd.R_far (p := ⟨qf, 2, none⟩) (Kd.R_far (p := ⟨qf, 1, none⟩) (Kd.R_types qb.out qc.out (by decide)) (fun _ hk => hk.2) (.int .i64 (wrap64 (qi * qj)))) (fun _ hk => hk.2) (.bool false)) (fun _ h_ => h_.1))) hb); replace qd := Aside0.mk (blk_below (g := qh) (o := .cells #[.slice none 0 0, .int .i64 0, .bool false] 27 (0, 0)) (kf_ qd) hb); replace qc := Aside0.mk (blk_below (g := qf) (o := .cells #[.slice qp qa.length qo, .int .i64 (wrap64 (qi * qj)), .bool false] 27 (0, 0)) (by (with_reducible repeat (first | refine blk_drewN ?_ _ | refine blk_drew ?_ | refine blk_alloc ?_ _)); refine blk_put (cs := #[.slice qp qa.length qo, .int .i64 (wrap64 (qi * qj)), .bool false]) ?_ 2 _ rfl; (with_reducible repeat (first | refine blk_drewN ?_ _ | refine blk_drew ?_ | refine blk_alloc ?_ _)); refine blk_put (cs := #[.slice qp qa.length qo, .int .i64 qe, .bool false]) ?_ 1 _ rfl; (with_reducible repeat (first | refine blk_drewN ?_ _ | refine blk_drew ?_ | refine blk_alloc ?_ _)); exact qc.out) hb); replace HB := bS_ HB hb; (try clear hb); (try clear hb2); (try clear hk); (try clear hi); have zf : qu.cell? ⟨qf, 0, none⟩ = some (.slice qp qa.length qo) := bc_ qc 0; have zg : qu.cell? ⟨qf, 1, none⟩ = some (.int .i64 (wrap64 (qi * qj))) := bc_ qc 1; have zh : qu.cell? ⟨qf, 2, none⟩ = some (.bool false) := bc_ qc 2; have zi := blk_frozen qc.out 0; have zj := blk_frozen qc.out 1; have zk := blk_frozen qc.out 2; have zl : qu.cell? ⟨qh, 0, none⟩ = some (.slice none 0 0) := bc_ qd 0; have zm : qu.cell? ⟨qh, 1, none⟩ = some (.int .i64 0) := bc_ qd 1; have zn : qu.cell? ⟨qh, 2, none⟩ = some (.bool false) := bc_ qd 2; have zo := blk_frozen qd.out 0; have zp := blk_frozen qd.out 1; have zq := blk_frozen qd.out 2))
              repeat (go_quiet (first | (go_at_call 12; (with_reducible refine (spec_FormatAtom.calls kj16 _ _ qa (wrap64 (qi * qj)) false qI _ ?side1 ?side2 A96.out).mono ?_); (case side1 => refine (Kd.R_reads' (e := 3) (base := w.heap.size) (ok := fun k_ => True) (n := qa.length) (c := qo) ?_).2.2; exact (by (with_reducible repeat (first | apply Kd.R_alloc | apply Kd.R_drewN | apply Kd.R_drew)); exact (Kd.R_mono (Kd.R_far (p := ⟨qf, 2, none⟩) (Kd.R_far (p := ⟨qf, 1, none⟩) (Kd.R_types qb.out qc.out (by decide)) (fun _ hk => hk.2) (.int .i64 (wrap64 (qi * qj)))) (fun _ hk => hk.2) (.bool false)) (fun _ h_ => h_.1)))); (case side2 => exact (Kd.R_reads' qb.out).2.1); rintro e qu ⟨rfl, hb⟩; replace qb := Aside0.mk (Kd.R_below (by (with_reducible repeat (first | apply Kd.R_alloc | apply Kd.R_drewN | apply Kd.R_drew)); exact (Kd.R_mono (Kd.R_far (p := ⟨qf, 2, none⟩) (Kd.R_far (p := ⟨qf, 1, none⟩) (Kd.R_types qb.out qc.out (by decide)) (fun _ hk => hk.2) (.int .i64 (wrap64 (qi * qj)))) (fun _ hk => hk.2) (.bool false)) (fun _ h_ => h_.1))) hb); replace qd := Aside0.mk (blk_below (g := qh) (o := .cells #[.slice none 0 0, .int .i64 0, .bool false] 27 (0, 0)) (kf_ qd) hb); replace qc := Aside0.mk (blk_below (g := qf) (o := .cells #[.slice qp qa.length qo, .int .i64 (wrap64 (qi * qj)), .bool false] 27 (0, 0)) (by (with_reducible repeat (first | refine blk_drewN ?_ _ | refine blk_drew ?_ | refine blk_alloc ?_ _)); refine blk_put (cs := #[.slice qp qa.length qo, .int .i64 (wrap64 (qi * qj)), .bool false]) ?_ 2 _ rfl; (with_reducible repeat (first | refine blk_drewN ?_ _ | refine blk_drew ?_ | refine blk_alloc ?_ _)); refine blk_put (cs := #[.slice qp qa.length qo, .int .i64 qe, .bool false]) ?_ 1 _ rfl; (with_reducible repeat (first | refine blk_drewN ?_ _ | refine blk_drew ?_ | refine blk_alloc ?_ _)); exact qc.out) hb); replace HB := bS_ HB hb; (try clear hb); (try clear hb2); (try clear hk); (try clear hi); have zf : qu.cell? ⟨qf, 0, none⟩ = some (.slice qp qa.length qo) := bc_ qc 0; have zg : qu.cell? ⟨qf, 1, none⟩ = some (.int .i64 (wrap64 (qi * qj))) := bc_ qc 1; have zh : qu.cell? ⟨qf, 2, none⟩ = some (.bool false) := bc_ qc 2; have zi := blk_frozen qc.out 0; have zj := blk_frozen qc.out 1; have zk := blk_frozen qc.out 2; have zl : qu.cell? ⟨qh, 0, none⟩ = some (.slice none 0 0) := bc_ qd 0; have zm : qu.cell? ⟨qh, 1, none⟩ = some (.int .i64 0) := bc_ qd 1; have zn : qu.cell? ⟨qh, 2, none⟩ = some (.bool false) := bc_ qd 2; have zo := blk_frozen qd.out 0; have zp := blk_frozen qd.out 1; have zq := blk_frozen qd.out 2)); try go_wp2_with (first | (go_at_call 12; (with_reducible refine (spec_FormatAtom.calls kj16 _ _ qa (wrap64 (qi * qj)) false qI _ ?side1 ?side2 A96.out).mono ?_); (case side1 => refine (Kd.R_reads' (e := 3) (base := w.heap.size) (ok := fun k_ => True) (n := qa.length) (c := qo) ?_).2.2; exact (by (with_reducible repeat (first | apply Kd.R_alloc | apply Kd.R_drewN | apply Kd.R_drew)); exact (Kd.R_mono (Kd.R_far (p := ⟨qf, 2, none⟩) (Kd.R_far (p := ⟨qf, 1, none⟩) (Kd.R_types qb.out qc.out (by decide)) (fun _ hk => hk.2) (.int .i64 (wrap64 (qi * qj)))) (fun _ hk => hk.2) (.bool false)) (fun _ h_ => h_.1)))); (case side2 => exact (Kd.R_reads' qb.out).2.1); rintro e qu ⟨rfl, hb⟩; replace qb := Aside0.mk (Kd.R_below (by (with_reducible repeat (first | apply Kd.R_alloc | apply Kd.R_drewN | apply Kd.R_drew)); exact (Kd.R_mono (Kd.R_far (p := ⟨qf, 2, none⟩) (Kd.R_far (p := ⟨qf, 1, none⟩) (Kd.R_types qb.out qc.out (by decide)) (fun _ hk => hk.2) (.int .i64 (wrap64 (qi * qj)))) (fun _ hk => hk.2) (.bool false)) (fun _ h_ => h_.1))) hb); replace qd := Aside0.mk (blk_below (g := qh) (o := .cells #[.slice none 0 0, .int .i64 0, .bool false] 27 (0, 0)) (kf_ qd) hb); replace qc := Aside0.mk (blk_below (g := qf) (o := .cells #[.slice qp qa.length qo, .int .i64 (wrap64 (qi * qj)), .bool false] 27 (0, 0)) (by (with_reducible repeat (first | refine blk_drewN ?_ _ | refine blk_drew ?_ | refine blk_alloc ?_ _)); refine blk_put (cs := #[.slice qp qa.length qo, .int .i64 (wrap64 (qi * qj)), .bool false]) ?_ 2 _ rfl; (with_reducible repeat (first | refine blk_drewN ?_ _ | refine blk_drew ?_ | refine blk_alloc ?_ _)); refine blk_put (cs := #[.slice qp qa.length qo, .int .i64 qe, .bool false]) ?_ 1 _ rfl; (with_reducible repeat (first | refine blk_drewN ?_ _ | refine blk_drew ?_ | refine blk_alloc ?_ _)); exact qc.out) hb); replace HB := bS_ HB hb; (try clear hb); (try clear hb2); (try clear hk); (try clear hi); have zf : qu.cell? ⟨qf, 0, none⟩ = some (.slice qp qa.length qo) := bc_ qc 0; have zg : qu.cell? ⟨qf, 1, none⟩ = some (.int .i64 (wrap64 (qi * qj))) := bc_ qc 1; have zh : qu.cell? ⟨qf, 2, none⟩ = some (.bool false) := bc_ qc 2; have zi := blk_frozen qc.out 0; have zj := blk_frozen qc.out 1; have zk := blk_frozen qc.out 2; have zl : qu.cell? ⟨qh, 0, none⟩ = some (.slice none 0 0) := bc_ qd 0; have zm : qu.cell? ⟨qh, 1, none⟩ = some (.int .i64 0) := bc_ qd 1; have zn : qu.cell? ⟨qh, 2, none⟩ = some (.bool false) := bc_ qd 2; have zo := blk_frozen qd.out 0; have zp := blk_frozen qd.out 1; have zq := blk_frozen qd.out 2)))
              refine bodyPost_ret (results_ct rfl _ _ qh 27 #[.slice qp qa.length qo, .int .i64 (wrap64 (qi * qj)), .bool false] (0, 0) _ rfl (by (with_reducible repeat (first | refine blk_drewN ?_ _ | refine blk_drew ?_ | refine blk_alloc ?_ _)); refine blk_put (cs := #[.slice qp qa.length qo, .int .i64 (wrap64 (qi * qj)), .bool false]) ?_ 2 _ rfl; (with_reducible repeat (first | refine blk_drewN ?_ _ | refine blk_drew ?_ | refine blk_alloc ?_ _)); refine blk_put (cs := #[.slice qp qa.length qo, .int .i64 0, .bool false]) ?_ 1 _ rfl; (with_reducible repeat (first | refine blk_drewN ?_ _ | refine blk_drew ?_ | refine blk_alloc ?_ _)); refine blk_put (cs := #[.slice none 0 0, .int .i64 0, .bool false]) ?_ 0 _ rfl; (with_reducible repeat (first | refine blk_drewN ?_ _ | refine blk_drew ?_ | refine blk_alloc ?_ _)); exact qd.out) Tryd.underlying27 rfl (by kernel_rfl)) rfl ?_
              exact ⟨_, by first | rfl | (simp [errW_none, errW_some] <;> rfl) | (simp [*, errW_none, errW_some] <;> rfl), by (with_reducible repeat (first | apply Kd.R_alloc | apply Kd.R_drewN | apply Kd.R_drew)); exact Kd.R_mono (Kd.R_far (p := ⟨qh, 2, none⟩) (Kd.R_far (p := ⟨qh, 1, none⟩) (Kd.R_far (p := ⟨qh, 0, none⟩) (Kd.R_types qb.out qd.out (by decide)) (fun _ hk => hk.2) (.slice qp qa.length qo)) (fun _ hk => hk.2) (.int .i64 (wrap64 (qi * qj)))) (fun _ hk => hk.2) (.bool false)) (fun _ hk => trivial), bb_ HB⟩
             ·
              rw [if_neg c97] at H
              have QA : (qI.toList == a0.toList) = false := beq_eq_false_iff_ne.mpr c97
              have QB : (qI.toList != a0.toList) = true := bne_iff_ne.mpr c97
              simp only [Option.some.injEq, Prod.mk.injEq] at H
              obtain ⟨rfl, rfl, rfl, rfl⟩ := H
              have ZC := qm.out
              have ZD := ql.out
              have QC : wc.cell? ⟨qf, 0, none⟩ = some (u126000) := bc_ qc 0
              have QD : wc.cell? ⟨qf, 1, none⟩ = some (.int .i64 qe) := bc_ qc 1
              have QE : wc.cell? ⟨qf, 2, none⟩ = some (.bool false) := bc_ qc 2
              have QF := blk_frozen qc.out 0
              have QG := blk_frozen qc.out 1
              have QH := blk_frozen qc.out 2
              obtain ⟨qN, qH, eo106⟩ := Kd.R_slice qb.out
              subst eo106
              go_wp2_with (first | (go_at_call 12; (with_reducible refine (spec_FormatAtom.calls kj16 _ _ qa (wrap64 (qi * qj)) false qI _ ?side1 ?side2 A96.out).mono ?_); (case side1 => refine (Kd.R_reads' (e := 3) (base := w.heap.size) (ok := fun k_ => True) (n := qa.length) (c := qH) ?_).2.2; exact (by (with_reducible repeat (first | apply Kd.R_alloc | apply Kd.R_drewN | apply Kd.R_drew)); exact (Kd.R_mono (Kd.R_far (p := ⟨qf, 2, none⟩) (Kd.R_far (p := ⟨qf, 1, none⟩) (Kd.R_types qb.out qc.out (by decide)) (fun _ hk => hk.2) (.int .i64 (wrap64 (qi * qj)))) (fun _ hk => hk.2) (.bool false)) (fun _ h_ => h_.1)))); (case side2 => exact (Kd.R_reads' qb.out).2.1); rintro e qZ ⟨rfl, hb⟩; replace qb := Aside0.mk (Kd.R_below (by (with_reducible repeat (first | apply Kd.R_alloc | apply Kd.R_drewN | apply Kd.R_drew)); exact (Kd.R_mono (Kd.R_far (p := ⟨qf, 2, none⟩) (Kd.R_far (p := ⟨qf, 1, none⟩) (Kd.R_types qb.out qc.out (by decide)) (fun _ hk => hk.2) (.int .i64 (wrap64 (qi * qj)))) (fun _ hk => hk.2) (.bool false)) (fun _ h_ => h_.1))) hb); replace qd := Aside0.mk (blk_below (g := qh) (o := .cells #[.slice none 0 0, .int .i64 0, .bool false] 27 (0, 0)) (kf_ qd) hb); replace qc := Aside0.mk (blk_below (g := qf) (o := .cells #[.slice qN qa.length qH, .int .i64 (wrap64 (qi * qj)), .bool false] 27 (0, 0)) (by (with_reducible repeat (first | refine blk_drewN ?_ _ | refine blk_drew ?_ | refine blk_alloc ?_ _)); refine blk_put (cs := #[.slice qN qa.length qH, .int .i64 (wrap64 (qi * qj)), .bool false]) ?_ 2 _ rfl; (with_reducible repeat (first | refine blk_drewN ?_ _ | refine blk_drew ?_ | refine blk_alloc ?_ _)); refine blk_put (cs := #[.slice qN qa.length qH, .int .i64 qe, .bool false]) ?_ 1 _ rfl; (with_reducible repeat (first | refine blk_drewN ?_ _ | refine blk_drew ?_ | refine blk_alloc ?_ _)); exact qc.out) hb); replace HB := bS_ HB hb; (try clear hb); (try clear hb2); (try clear hk); (try clear hi); have zr : qZ.cell? ⟨qh, 0, none⟩ = some (.slice none 0 0) := bc_ qd 0; have zs : qZ.cell? ⟨qh, 1, none⟩ = some (.int .i64 0) := bc_ qd 1; have zt : qZ.cell? ⟨qh, 2, none⟩ = some (.bool false) := bc_ qd 2; have zu := blk_frozen qd.out 0; have zv := blk_frozen qd.out 1; have zw := blk_frozen qd.out 2))
              repeat (go_quiet (first | (go_at_call 12; (with_reducible refine (spec_FormatAtom.calls kj16 _ _ qa (wrap64 (qi * qj)) false qI _ ?side1 ?side2 A96.out).mono ?_); (case side1 => refine (Kd.R_reads' (e := 3) (base := w.heap.size) (ok := fun k_ => True) (n := qa.length) (c := qH) ?_).2.2; exact (by (with_reducible repeat (first | apply Kd.R_alloc | apply Kd.R_drewN | apply Kd.R_drew)); exact (Kd.R_mono (Kd.R_far (p := ⟨qf, 2, none⟩) (Kd.R_far (p := ⟨qf, 1, none⟩) (Kd.R_types qb.out qc.out (by decide)) (fun _ hk => hk.2) (.int .i64 (wrap64 (qi * qj)))) (fun _ hk => hk.2) (.bool false)) (fun _ h_ => h_.1)))); (case side2 => exact (Kd.R_reads' qb.out).2.1); rintro e qZ ⟨rfl, hb⟩; replace qb := Aside0.mk (Kd.R_below (by (with_reducible repeat (first | apply Kd.R_alloc | apply Kd.R_drewN | apply Kd.R_drew)); exact (Kd.R_mono (Kd.R_far (p := ⟨qf, 2, none⟩) (Kd.R_far (p := ⟨qf, 1, none⟩) (Kd.R_types qb.out qc.out (by decide)) (fun _ hk => hk.2) (.int .i64 (wrap64 (qi * qj)))) (fun _ hk => hk.2) (.bool false)) (fun _ h_ => h_.1))) hb); replace qd := Aside0.mk (blk_below (g := qh) (o := .cells #[.slice none 0 0, .int .i64 0, .bool false] 27 (0, 0)) (kf_ qd) hb); replace qc := Aside0.mk (blk_below (g := qf) (o := .cells #[.slice qN qa.length qH, .int .i64 (wrap64 (qi * qj)), .bool false] 27 (0, 0)) (by (with_reducible repeat (first | refine blk_drewN ?_ _ | refine blk_drew ?_ | refine blk_alloc ?_ _)); refine blk_put (cs := #[.slice qN qa.length qH, .int .i64 (wrap64 (qi * qj)), .bool false]) ?_ 2 _ rfl; (with_reducible repeat (first | refine blk_drewN ?_ _ | refine blk_drew ?_ | refine blk_alloc ?_ _)); refine blk_put (cs := #[.slice qN qa.length qH, .int .i64 qe, .bool false]) ?_ 1 _ rfl; (with_reducible repeat (first | refine blk_drewN ?_ _ | refine blk_drew ?_ | refine blk_alloc ?_ _)); exact qc.out) hb); replace HB := bS_ HB hb; (try clear hb); (try clear hb2); (try clear hk); (try clear hi); have zr : qZ.cell? ⟨qh, 0, none⟩ = some (.slice none 0 0) := bc_ qd 0; have zs : qZ.cell? ⟨qh, 1, none⟩ = some (.int .i64 0) := bc_ qd 1; have zt : qZ.cell? ⟨qh, 2, none⟩ = some (.bool false) := bc_ qd 2; have zu := blk_frozen qd.out 0; have zv := blk_frozen qd.out 1; have zw := blk_frozen qd.out 2)); try go_wp2_with (first | (go_at_call 12; (with_reducible refine (spec_FormatAtom.calls kj16 _ _ qa (wrap64 (qi * qj)) false qI _ ?side1 ?side2 A96.out).mono ?_); (case side1 => refine (Kd.R_reads' (e := 3) (base := w.heap.size) (ok := fun k_ => True) (n := qa.length) (c := qH) ?_).2.2; exact (by (with_reducible repeat (first | apply Kd.R_alloc | apply Kd.R_drewN | apply Kd.R_drew)); exact (Kd.R_mono (Kd.R_far (p := ⟨qf, 2, none⟩) (Kd.R_far (p := ⟨qf, 1, none⟩) (Kd.R_types qb.out qc.out (by decide)) (fun _ hk => hk.2) (.int .i64 (wrap64 (qi * qj)))) (fun _ hk => hk.2) (.bool false)) (fun _ h_ => h_.1)))); (case side2 => exact (Kd.R_reads' qb.out).2.1); rintro e qZ ⟨rfl, hb⟩; replace qb := Aside0.mk (Kd.R_below (by (with_reducible repeat (first | apply Kd.R_alloc | apply Kd.R_drewN | apply Kd.R_drew)); exact (Kd.R_mono (Kd.R_far (p := ⟨qf, 2, none⟩) (Kd.R_far (p := ⟨qf, 1, none⟩) (Kd.R_types qb.out qc.out (by decide)) (fun _ hk => hk.2) (.int .i64 (wrap64 (qi * qj)))) (fun _ hk => hk.2) (.bool false)) (fun _ h_ => h_.1))) hb); replace qd := Aside0.mk (blk_below (g := qh) (o := .cells #[.slice none 0 0, .int .i64 0, .bool false] 27 (0, 0)) (kf_ qd) hb); replace qc := Aside0.mk (blk_below (g := qf) (o := .cells #[.slice qN qa.length qH, .int .i64 (wrap64 (qi * qj)), .bool false] 27 (0, 0)) (by (with_reducible repeat (first | refine blk_drewN ?_ _ | refine blk_drew ?_ | refine blk_alloc ?_ _)); refine blk_put (cs := #[.slice qN qa.length qH, .int .i64 (wrap64 (qi * qj)), .bool false]) ?_ 2 _ rfl; (with_reducible repeat (first | refine blk_drewN ?_ _ | refine blk_drew ?_ | refine blk_alloc ?_ _)); refine blk_put (cs := #[.slice qN qa.length qH, .int .i64 qe, .bool false]) ?_ 1 _ rfl; (with_reducible repeat (first | refine blk_drewN ?_ _ | refine blk_drew ?_ | refine blk_alloc ?_ _)); exact qc.out) hb); replace HB := bS_ HB hb; (try clear hb); (try clear hb2); (try clear hk); (try clear hi); have zr : qZ.cell? ⟨qh, 0, none⟩ = some (.slice none 0 0) := bc_ qd 0; have zs : qZ.cell? ⟨qh, 1, none⟩ = some (.int .i64 0) := bc_ qd 1; have zt : qZ.cell? ⟨qh, 2, none⟩ = some (.bool false) := bc_ qd 2; have zu := blk_frozen qd.out 0; have zv := blk_frozen qd.out 1; have zw := blk_frozen qd.out 2)))
              refine bodyPost_ret (results_ct rfl _ _ qh 27 #[.slice none 0 0, .int .i64 0, .bool false] (0, 0) _ rfl (by (with_reducible repeat (first | refine blk_drewN ?_ _ | refine blk_drew ?_ | refine blk_alloc ?_ _)); refine blk_put (cs := #[.slice none 0 0, .int .i64 0, .bool false]) ?_ 2 _ rfl; (with_reducible repeat (first | refine blk_drewN ?_ _ | refine blk_drew ?_ | refine blk_alloc ?_ _)); refine blk_put (cs := #[.slice none 0 0, .int .i64 0, .bool false]) ?_ 1 _ rfl; (with_reducible repeat (first | refine blk_drewN ?_ _ | refine blk_drew ?_ | refine blk_alloc ?_ _)); refine blk_put (cs := #[.slice none 0 0, .int .i64 0, .bool false]) ?_ 0 _ rfl; (with_reducible repeat (first | refine blk_drewN ?_ _ | refine blk_drew ?_ | refine blk_alloc ?_ _)); exact qd.out) Tryd.underlying27 rfl (by kernel_rfl)) rfl ?_
              exact ⟨_, by first | rfl | (simp [errW_none, errW_some] <;> rfl) | (simp [*, errW_none, errW_some] <;> rfl), by first | exact Kd.R_nil _ _ _ _ _ | exact Kd.N_nil _ _ _ _ _ | exact Kd.V_nil _ _ _ _ _ | exact Kd.Q_nil _ _ _ _ _ | exact Kd.S_nil _ _ _ _ _, bb_ HB⟩
           ·
            replace c77 := Bool.eq_false_iff.mpr c77
            subst c77
            have H1 : (if (a0.size : Int) > 2 then (if 0 ≤ (wrap64 ((a0.size : Int) - 2)) then (if (wrap64 ((a0.size : Int) - 2)) < (a0.size : Int) then ((spec_FormatAtom.f kj16 qa qe ((bt a0 (wrap64 ((a0.size : Int) - 2))) == 60)).bind fun qt => (if qt.toList = a0.toList then (some (qa, qe, ((bt a0 (wrap64 ((a0.size : Int) - 2))) == 60), true)) else (some (([] : List Int), 0, false, false)))) else (none)) else (none)) else ((spec_FormatAtom.f kj16 qa qe false).bind fun qJ => (if qJ.toList = a0.toList then (some (qa, qe, false, true)) else (some (([] : List Int), 0, false, false))))) = some (r1, r2, r3, r4) := by rw [if_neg (show ¬ (false = true) by decide)] at H; exact H
            clear H
            have H := H1
            clear H1
            by_cases c109 : (a0.size : Int) > 2
            ·
             rw [if_pos c109] at H
             have Qh : decide (2 < (a0.size : Int)) = true := decide_eq_true c109
             have Qi : decide (2 < a0.size) = true := decide_eq_true (by omega)
             clear c109
             obtain ⟨ji110, hji110⟩ : ∃ j_ : Int, (wrap64 ((a0.size : Int) - 2)) = j_ := ⟨_, rfl⟩
             replace H : (if 0 ≤ (ji110) then (if (ji110) < (a0.size : Int) then ((spec_FormatAtom.f kj16 qa qe ((bt a0 (ji110)) == 60)).bind fun qt => (if qt.toList = a0.toList then (some (qa, qe, ((bt a0 (ji110)) == 60), true)) else (some (([] : List Int), 0, false, false)))) else (none)) else (none)) = some (r1, r2, r3, r4) := by first | (rw [hji110] at H; exact H) | (simp only [hji110] at H ⊢; exact H)
             have hji110w : (IntKind.i64.wrap ((a0.size : Int) - 2)) = ji110 := (i64_w _).trans hji110
             by_cases c111 : 0 ≤ (ji110)
             ·
              rw [if_pos c111] at H
              have ZE : decide (0 ≤ (ji110)) = true := decide_eq_true c111
              clear c111
              by_cases c112 : (ji110) < (a0.size : Int)
              ·
               rw [if_pos c112] at H
               have ZF : decide ((ji110) < (a0.size : Int)) = true := decide_eq_true c112
               clear c112
               replace H := Option.bind_eq_some_iff.mp H
               obtain ⟨qt, A1140, H⟩ := H
               replace H : (if qt.toList = a0.toList then (some (qa, qe, ((bt a0 (ji110)) == 60), true)) else (some (([] : List Int), 0, false, false))) = some (r1, r2, r3, r4) := H
               have A114 := Aside0.mk A1140
               clear A1140
               by_cases c115 : qt.toList = a0.toList
               ·
                rw [if_pos c115] at H
                have Qj : (qt.toList == a0.toList) = true := beq_iff_eq.mpr c115
                have Qk : (qt.toList != a0.toList) = false := bne_eq_false_iff_eq.mpr c115
                clear c115
                simp only [Option.some.injEq, Prod.mk.injEq] at H
                obtain ⟨rfl, rfl, rfl, rfl⟩ := H
                have p113 : 0 ≤ ((ji110) : Int) := of_decide_eq_true (by first | (with_reducible assumption) | assumption)
                have q113 : (ji110) < (a0.size : Int) := of_decide_eq_true (by first | (with_reducible assumption) | assumption)
                have hx113 := bt_at a0 (ji110)
                replace p113 := eq_true p113
                replace q113 := eq_true q113
                have ZG := qm.out
                have ZH := ql.out
                have QI : wc.cell? ⟨qf, 0, none⟩ = some (u126000) := bc_ qc 0
                have QJ : wc.cell? ⟨qf, 1, none⟩ = some (.int .i64 qe) := bc_ qc 1
                have QK : wc.cell? ⟨qf, 2, none⟩ = some (.bool false) := bc_ qc 2
                have QL := blk_frozen qc.out 0
                have QM := blk_frozen qc.out 1
                have QN := blk_frozen qc.out 2
                obtain ⟨qv, qq, eo118⟩ := Kd.R_slice qb.out
                subst eo118
                go_wp2_with (first | (go_at_call 12; (with_reducible refine (spec_FormatAtom.calls kj16 _ _ qa qe ((bt a0 (ji110)) == 60) qt _ ?side1 ?side2 A114.out).mono ?_); (case side1 => refine (Kd.R_reads' (e := 3) (base := w.heap.size) (ok := fun k_ => True) (n := qa.length) (c := qq) ?_).2.2; exact (by (with_reducible repeat (first | apply Kd.R_alloc | apply Kd.R_drewN | apply Kd.R_drew)); exact (Kd.R_mono (Kd.R_far (p := ⟨qf, 2, none⟩) (Kd.R_types qb.out qc.out (by decide)) (fun _ hk => hk.2) (.bool ((bt a0 (ji110)) == 60))) (fun _ h_ => h_.1)))); (case side2 => exact (Kd.R_reads' qb.out).2.1); rintro e qw ⟨rfl, hb⟩; replace qb := Aside0.mk (Kd.R_below (by (with_reducible repeat (first | apply Kd.R_alloc | apply Kd.R_drewN | apply Kd.R_drew)); exact (Kd.R_mono (Kd.R_far (p := ⟨qf, 2, none⟩) (Kd.R_types qb.out qc.out (by decide)) (fun _ hk => hk.2) (.bool ((bt a0 (ji110)) == 60))) (fun _ h_ => h_.1))) hb); replace qd := Aside0.mk (blk_below (g := qh) (o := .cells #[.slice none 0 0, .int .i64 0, .bool false] 27 (0, 0)) (kf_ qd) hb); replace qc := Aside0.mk (blk_below (g := qf) (o := .cells #[.slice qv qa.length qq, .int .i64 qe, .bool ((bt a0 (ji110)) == 60)] 27 (0, 0)) (by (with_reducible repeat (first | refine blk_drewN ?_ _ | refine blk_drew ?_ | refine blk_alloc ?_ _)); refine blk_put (cs := #[.slice qv qa.length qq, .int .i64 qe, .bool false]) ?_ 2 _ rfl; (with_reducible repeat (first | refine blk_drewN ?_ _ | refine blk_drew ?_ | refine blk_alloc ?_ _)); exact qc.out) hb); replace HB := bS_ HB hb; (try clear hb); (try clear hb2); (try clear hk); (try clear hi); have zx : qw.cell? ⟨qf, 0, none⟩ = some (.slice qv qa.length qq) := bc_ qc 0; have zy : qw.cell? ⟨qf, 1, none⟩ = some (.int .i64 qe) := bc_ qc 1; have zz : qw.cell? ⟨qf, 2, none⟩ = some (.bool ((bt a0 (ji110)) == 60)) := bc_ qc 2; have zA := blk_frozen qc.out 0; have zB := blk_frozen qc.out 1; have zC := blk_frozen qc.out 2; have zD : qw.cell? ⟨qh, 0, none⟩ = some (.slice none 0 0) := bc_ qd 0; have zE : qw.cell? ⟨qh, 1, none⟩ = some (.int .i64 0) := bc_ qd 1; have zF : qw.cell? ⟨qh, 2, none⟩ = some (.bool false) := bc_ qd 2; have zG := blk_frozen qd.out 0; have zH := blk_frozen qd.out 1; have zI := blk_frozen qd.out 2))
                repeat (go_quiet (first | (go_at_call 12; (with_reducible refine (spec_FormatAtom.calls kj16 _ _ qa qe ((bt a0 (ji110)) == 60) qt _ ?side1 ?side2 A114.out).mono ?_); (case side1 => refine (Kd.R_reads' (e := 3) (base := w.heap.size) (ok := fun k_ => True) (n := qa.length) (c := qq) ?_).2.2; exact (by (with_reducible repeat (first | apply Kd.R_alloc | apply Kd.R_drewN | apply Kd.R_drew)); exact (Kd.R_mono (Kd.R_far (p := ⟨qf, 2, none⟩) (Kd.R_types qb.out qc.out (by decide)) (fun _ hk => hk.2) (.bool ((bt a0 (ji110)) == 60))) (fun _ h_ => h_.1)))); (case side2 => exact (Kd.R_reads' qb.out).2.1); rintro e qw ⟨rfl, hb⟩; replace qb := Aside0.mk (Kd.R_below (by (with_reducible repeat (first | apply Kd.R_alloc | apply Kd.R_drewN | apply Kd.R_drew)); exact (Kd.R_mono (Kd.R_far (p := ⟨qf, 2, none⟩) (Kd.R_types qb.out qc.out (by decide)) (fun _ hk => hk.2) (.bool ((bt a0 (ji110)) == 60))) (fun _ h_ => h_.1))) hb); replace qd := Aside0.mk (blk_below (g := qh) (o := .cells #[.slice none 0 0, .int .i64 0, .bool false] 27 (0, 0)) (kf_ qd) hb); replace qc := Aside0.mk (blk_below (g := qf) (o := .cells #[.slice qv qa.length qq, .int .i64 qe, .bool ((bt a0 (ji110)) == 60)] 27 (0, 0)) (by (with_reducible repeat (first | refine blk_drewN ?_ _ | refine blk_drew ?_ | refine blk_alloc ?_ _)); refine blk_put (cs := #[.slice qv qa.length qq, .int .i64 qe, .bool false]) ?_ 2 _ rfl; (with_reducible repeat (first | refine blk_drewN ?_ _ | refine blk_drew ?_ | refine blk_alloc ?_ _)); exact qc.out) hb); replace HB := bS_ HB hb; (try clear hb); (try clear hb2); (try clear hk); (try clear hi); have zx : qw.cell? ⟨qf, 0, none⟩ = some (.slice qv qa.length qq) := bc_ qc 0; have zy : qw.cell? ⟨qf, 1, none⟩ = some (.int .i64 qe) := bc_ qc 1; have zz : qw.cell? ⟨qf, 2, none⟩ = some (.bool ((bt a0 (ji110)) == 60)) := bc_ qc 2; have zA := blk_frozen qc.out 0; have zB := blk_frozen qc.out 1; have zC := blk_frozen qc.out 2; have zD : qw.cell? ⟨qh, 0, none⟩ = some (.slice none 0 0) := bc_ qd 0; have zE : qw.cell? ⟨qh, 1, none⟩ = some (.int .i64 0) := bc_ qd 1; have zF : qw.cell? ⟨qh, 2, none⟩ = some (.bool false) := bc_ qd 2; have zG := blk_frozen qd.out 0; have zH := blk_frozen qd.out 1; have zI := blk_frozen qd.out 2)); try go_wp2_with (first | (go_at_call 12; (with_reducible refine (spec_FormatAtom.calls kj16 _ _ qa qe ((bt a0 (ji110)) == 60) qt _ ?side1 ?side2 A114.out).mono ?_); (case side1 => refine (Kd.R_reads' (e := 3) (base := w.heap.size) (ok := fun k_ => True) (n := qa.length) (c := qq) ?_).2.2; exact (by (with_reducible repeat (first | apply Kd.R_alloc | apply Kd.R_drewN | apply Kd.R_drew)); exact (Kd.R_mono (Kd.R_far (p := ⟨qf, 2, none⟩) (Kd.R_types qb.out qc.out (by decide)) (fun _ hk => hk.2) (.bool ((bt a0 (ji110)) == 60))) (fun _ h_ => h_.1)))); (case side2 => exact (Kd.R_reads' qb.out).2.1); rintro e qw ⟨rfl, hb⟩; replace qb := Aside0.mk (Kd.R_below (by (with_reducible repeat (first | apply Kd.R_alloc | apply Kd.R_drewN | apply Kd.R_drew)); exact (Kd.R_mono (Kd.R_far (p := ⟨qf, 2, none⟩) (Kd.R_types qb.out qc.out (by decide)) (fun _ hk => hk.2) (.bool ((bt a0 (ji110)) == 60))) (fun _ h_ => h_.1))) hb); replace qd := Aside0.mk (blk_below (g := qh) (o := .cells #[.slice none 0 0, .int .i64 0, .bool false] 27 (0, 0)) (kf_ qd) hb); replace qc := Aside0.mk (blk_below (g := qf) (o := .cells #[.slice qv qa.length qq, .int .i64 qe, .bool ((bt a0 (ji110)) == 60)] 27 (0, 0)) (by (with_reducible repeat (first | refine blk_drewN ?_ _ | refine blk_drew ?_ | refine blk_alloc ?_ _)); refine blk_put (cs := #[.slice qv qa.length qq, .int .i64 qe, .bool false]) ?_ 2 _ rfl; (with_reducible repeat (first | refine blk_drewN ?_ _ | refine blk_drew ?_ | refine blk_alloc ?_ _)); exact qc.out) hb); replace HB := bS_ HB hb; (try clear hb); (try clear hb2); (try clear hk); (try clear hi); have zx : qw.cell? ⟨qf, 0, none⟩ = some (.slice qv qa.length qq) := bc_ qc 0; have zy : qw.cell? ⟨qf, 1, none⟩ = some (.int .i64 qe) := bc_ qc 1; have zz : qw.cell? ⟨qf, 2, none⟩ = some (.bool ((bt a0 (ji110)) == 60)) := bc_ qc 2; have zA := blk_frozen qc.out 0; have zB := blk_frozen qc.out 1; have zC := blk_frozen qc.out 2; have zD : qw.cell? ⟨qh, 0, none⟩ = some (.slice none 0 0) := bc_ qd 0; have zE : qw.cell? ⟨qh, 1, none⟩ = some (.int .i64 0) := bc_ qd 1; have zF : qw.cell? ⟨qh, 2, none⟩ = some (.bool false) := bc_ qd 2; have zG := blk_frozen qd.out 0; have zH := blk_frozen qd.out 1; have zI := blk_frozen qd.out 2)))
                refine bodyPost_ret (results_ct rfl _ _ qh 27 #[.slice qv qa.length qq, .int .i64 qe, .bool ((bt a0 (ji110)) == 60)] (0, 0) _ rfl (by (with_reducible repeat (first | refine blk_drewN ?_ _ | refine blk_drew ?_ | refine blk_alloc ?_ _)); refine blk_put (cs := #[.slice qv qa.length qq, .int .i64 qe, .bool false]) ?_ 2 _ rfl; (with_reducible repeat (first | refine blk_drewN ?_ _ | refine blk_drew ?_ | refine blk_alloc ?_ _)); refine blk_put (cs := #[.slice qv qa.length qq, .int .i64 0, .bool false]) ?_ 1 _ rfl; (with_reducible repeat (first | refine blk_drewN ?_ _ | refine blk_drew ?_ | refine blk_alloc ?_ _)); refine blk_put (cs := #[.slice none 0 0, .int .i64 0, .bool false]) ?_ 0 _ rfl; (with_reducible repeat (first | refine blk_drewN ?_ _ | refine blk_drew ?_ | refine blk_alloc ?_ _)); exact qd.out) Tryd.underlying27 rfl (by kernel_rfl)) rfl ?_
                exact ⟨_, by first | rfl | (simp [errW_none, errW_some] <;> rfl) | (simp only [← hji110]; first | rfl | (simp [errW_none, errW_some] <;> rfl)) | (simp [*, errW_none, errW_some] <;> rfl), by (with_reducible repeat (first | apply Kd.R_alloc | apply Kd.R_drewN | apply Kd.R_drew)); exact Kd.R_mono (Kd.R_far (p := ⟨qh, 2, none⟩) (Kd.R_far (p := ⟨qh, 1, none⟩) (Kd.R_far (p := ⟨qh, 0, none⟩) (Kd.R_types qb.out qd.out (by decide)) (fun _ hk => hk.2) (.slice qv qa.length qq)) (fun _ hk => hk.2) (.int .i64 qe)) (fun _ hk => hk.2) (.bool ((bt a0 (ji110)) == 60))) (fun _ hk => trivial), bb_ HB⟩
               ·
                rw [if_neg c115] at H
                have Qj : (qt.toList == a0.toList) = false := beq_eq_false_iff_ne.mpr c115
                have Qk : (qt.toList != a0.toList) = true := bne_iff_ne.mpr c115
                simp only [Option.some.injEq, Prod.mk.injEq] at H
                obtain ⟨rfl, rfl, rfl, rfl⟩ := H
                have p113 : 0 ≤ ((ji110) : Int) := of_decide_eq_true (by first | (with_reducible assumption) | assumption)
                have q113 : (ji110) < (a0.size : Int) := of_decide_eq_true (by first | (with_reducible assumption) | assumption)
                have hx113 := bt_at a0 (ji110)
                replace p113 := eq_true p113
                replace q113 := eq_true q113
                have ZI := qm.out
                have ZJ := ql.out
                have QO : wc.cell? ⟨qf, 0, none⟩ = some (u126000) := bc_ qc 0
                have QP : wc.cell? ⟨qf, 1, none⟩ = some (.int .i64 qe) := bc_ qc 1
                have QQ : wc.cell? ⟨qf, 2, none⟩ = some (.bool false) := bc_ qc 2
                have QR := blk_frozen qc.out 0
                have QS := blk_frozen qc.out 1
                have QT := blk_frozen qc.out 2
                obtain ⟨q7, qO, eo124⟩ := Kd.R_slice qb.out
                subst eo124
                go_wp2_with (first | (go_at_call 12; (with_reducible refine (spec_FormatAtom.calls kj16 _ _ qa qe ((bt a0 (ji110)) == 60) qt _ ?side1 ?side2 A114.out).mono ?_); (case side1 => refine (Kd.R_reads' (e := 3) (base := w.heap.size) (ok := fun k_ => True) (n := qa.length) (c := qO) ?_).2.2; exact (by (with_reducible repeat (first | apply Kd.R_alloc | apply Kd.R_drewN | apply Kd.R_drew)); exact (Kd.R_mono (Kd.R_far (p := ⟨qf, 2, none⟩) (Kd.R_types qb.out qc.out (by decide)) (fun _ hk => hk.2) (.bool ((bt a0 (ji110)) == 60))) (fun _ h_ => h_.1)))); (case side2 => exact (Kd.R_reads' qb.out).2.1); rintro e q0 ⟨rfl, hb⟩; replace qb := Aside0.mk (Kd.R_below (by (with_reducible repeat (first | apply Kd.R_alloc | apply Kd.R_drewN | apply Kd.R_drew)); exact (Kd.R_mono (Kd.R_far (p := ⟨qf, 2, none⟩) (Kd.R_types qb.out qc.out (by decide)) (fun _ hk => hk.2) (.bool ((bt a0 (ji110)) == 60))) (fun _ h_ => h_.1))) hb); replace qd := Aside0.mk (blk_below (g := qh) (o := .cells #[.slice none 0 0, .int .i64 0, .bool false] 27 (0, 0)) (kf_ qd) hb); replace qc := Aside0.mk (blk_below (g := qf) (o := .cells #[.slice q7 qa.length qO, .int .i64 qe, .bool ((bt a0 (ji110)) == 60)] 27 (0, 0)) (by (with_reducible repeat (first | refine blk_drewN ?_ _ | refine blk_drew ?_ | refine blk_alloc ?_ _)); refine blk_put (cs := #[.slice q7 qa.length qO, .int .i64 qe, .bool false]) ?_ 2 _ rfl; (with_reducible repeat (first | refine blk_drewN ?_ _ | refine blk_drew ?_ | refine blk_alloc ?_ _)); exact qc.out) hb); replace HB := bS_ HB hb; (try clear hb); (try clear hb2); (try clear hk); (try clear hi); have zJ : q0.cell? ⟨qh, 0, none⟩ = some (.slice none 0 0) := bc_ qd 0; have zK : q0.cell? ⟨qh, 1, none⟩ = some (.int .i64 0) := bc_ qd 1; have zL : q0.cell? ⟨qh, 2, none⟩ = some (.bool false) := bc_ qd 2; have zM := blk_frozen qd.out 0; have zN := blk_frozen qd.out 1; have zO := blk_frozen qd.out 2))
                repeat (go_quiet (first | (go_at_call 12; (with_reducible refine (spec_FormatAtom.calls kj16 _ _ qa qe ((bt a0 (ji110)) == 60) qt _ ?side1 ?side2 A114.out).mono ?_); (case side1 => refine (Kd.R_reads' (e := 3) (base := w.heap.size) (ok := fun k_ => True) (n := qa.length) (c := qO) ?_).2.2; exact (by (with_reducible repeat (first | apply Kd.R_alloc | apply Kd.R_drewN | apply Kd.R_drew)); exact (Kd.R_mono (Kd.R_far (p := ⟨qf, 2, none⟩) (Kd.R_types qb.out qc.out (by decide)) (fun _ hk => hk.2) (.bool ((bt a0 (ji110)) == 60))) (fun _ h_ => h_.1)))); (case side2 => exact (Kd.R_reads' qb.out).2.1); rintro e q0 ⟨rfl, hb⟩; replace qb := Aside0.mk (Kd.R_below (by (with_reducible repeat (first | apply Kd.R_alloc | apply Kd.R_drewN | apply Kd.R_drew)); exact (Kd.R_mono (Kd.R_far (p := ⟨qf, 2, none⟩) (Kd.R_types qb.out qc.out (by decide)) (fun _ hk => hk.2) (.bool ((bt a0 (ji110)) == 60))) (fun _ h_ => h_.1))) hb); replace qd := Aside0.mk (blk_below (g := qh) (o := .cells #[.slice none 0 0, .int .i64 0, .bool false] 27 (0, 0)) (kf_ qd) hb); replace qc := Aside0.mk (blk_below (g := qf) (o := .cells #[.slice q7 qa.length qO, .int .i64 qe, .bool ((bt a0 (ji110)) == 60)] 27 (0, 0)) (by (with_reducible repeat (first | refine blk_drewN ?_ _ | refine blk_drew ?_ | refine blk_alloc ?_ _)); refine blk_put (cs := #[.slice q7 qa.length qO, .int .i64 qe, .bool false]) ?_ 2 _ rfl; (with_reducible repeat (first | refine blk_drewN ?_ _ | refine blk_drew ?_ | refine blk_alloc ?_ _)); exact qc.out) hb); replace HB := bS_ HB hb; (try clear hb); (try clear hb2); (try clear hk); (try clear hi); have zJ : q0.cell? ⟨qh, 0, none⟩ = some (.slice none 0 0) := bc_ qd 0; have zK : q0.cell? ⟨qh, 1, none⟩ = some (.int .i64 0) := bc_ qd 1; have zL : q0.cell? ⟨qh, 2, none⟩ = some (.bool false) := bc_ qd 2; have zM := blk_frozen qd.out 0; have zN := blk_frozen qd.out 1; have zO := blk_frozen qd.out 2)); try go_wp2_with (first | (go_at_call 12; (with_reducible refine (spec_FormatAtom.calls kj16 _ _ qa qe ((bt a0 (ji110)) == 60) qt _ ?side1 ?side2 A114.out).mono ?_); (case side1 => refine (Kd.R_reads' (e := 3) (base := w.heap.size) (ok := fun k_ => True) (n := qa.length) (c := qO) ?_).2.2; exact (by (with_reducible repeat (first | apply Kd.R_alloc | apply Kd.R_drewN | apply Kd.R_drew)); exact (Kd.R_mono (Kd.R_far (p := ⟨qf, 2, none⟩) (Kd.R_types qb.out qc.out (by decide)) (fun _ hk => hk.2) (.bool ((bt a0 (ji110)) == 60))) (fun _ h_ => h_.1)))); (case side2 => exact (Kd.R_reads' qb.out).2.1); rintro e q0 ⟨rfl, hb⟩; replace qb := Aside0.mk (Kd.R_below (by (with_reducible repeat (first | apply Kd.R_alloc | apply Kd.R_drewN | apply Kd.R_drew)); exact (Kd.R_mono (Kd.R_far (p := ⟨qf, 2, none⟩) (Kd.R_types qb.out qc.out (by decide)) (fun _ hk => hk.2) (.bool ((bt a0 (ji110)) == 60))) (fun _ h_ => h_.1))) hb); replace qd := Aside0.mk (blk_below (g := qh) (o := .cells #[.slice none 0 0, .int .i64 0, .bool false] 27 (0, 0)) (kf_ qd) hb); replace qc := Aside0.mk (blk_below (g := qf) (o := .cells #[.slice q7 qa.length qO, .int .i64 qe, .bool ((bt a0 (ji110)) == 60)] 27 (0, 0)) (by (with_reducible repeat (first | refine blk_drewN ?_ _ | refine blk_drew ?_ | refine blk_alloc ?_ _)); refine blk_put (cs := #[.slice q7 qa.length qO, .int .i64 qe, .bool false]) ?_ 2 _ rfl; (with_reducible repeat (first | refine blk_drewN ?_ _ | refine blk_drew ?_ | refine blk_alloc ?_ _)); exact qc.out) hb); replace HB := bS_ HB hb; (try clear hb); (try clear hb2); (try clear hk); (try clear hi); have zJ : q0.cell? ⟨qh, 0, none⟩ = some (.slice none 0 0) := bc_ qd 0; have zK : q0.cell? ⟨qh, 1, none⟩ = some (.int .i64 0) := bc_ qd 1; have zL : q0.cell? ⟨qh, 2, none⟩ = some (.bool false) := bc_ qd 2; have zM := blk_frozen qd.out 0; have zN := blk_frozen qd.out 1; have zO := blk_frozen qd.out 2)))
                refine bodyPost_ret (results_ct rfl _ _ qh 27 #[.slice none 0 0, .int .i64 0, .bool false] (0, 0) _ rfl (by (with_reducible repeat (first | refine blk_drewN ?_ _ | refine blk_drew ?_ | refine blk_alloc ?_ _)); refine blk_put (cs := #[.slice none 0 0, .int .i64 0, .bool false]) ?_ 2 _ rfl; (with_reducible repeat (first | refine blk_drewN ?_ _ | refine blk_drew ?_ | refine blk_alloc ?_ _)); refine blk_put (cs := #[.slice none 0 0, .int .i64 0, .bool false]) ?_ 1 _ rfl; (with_reducible repeat (first | refine blk_drewN ?_ _ | refine blk_drew ?_ | refine blk_alloc ?_ _)); refine blk_put (cs := #[.slice none 0 0, .int .i64 0, .bool false]) ?_ 0 _ rfl; (with_reducible repeat (first | refine blk_drewN ?_ _ | refine blk_drew ?_ | refine blk_alloc ?_ _)); exact qd.out) Tryd.underlying27 rfl (by kernel_rfl)) rfl ?_
                exact ⟨_, by first | rfl | (simp [errW_none, errW_some] <;> rfl) | (simp only [← hji110]; first | rfl | (simp [errW_none, errW_some] <;> rfl)) | (simp [*, errW_none, errW_some] <;> rfl), by first | exact Kd.R_nil _ _ _ _ _ | exact Kd.N_nil _ _ _ _ _ | exact Kd.V_nil _ _ _ _ _ | exact Kd.Q_nil _ _ _ _ _ | exact Kd.S_nil _ _ _ _ _, bb_ HB⟩
              ·
               rw [if_neg c112] at H
               exact absurd H (by simp)
             ·
              rw [if_neg c111] at H
              exact absurd H (by simp)
            ·
             rw [if_neg c109] at H
             have Qh : decide (2 < (a0.size : Int)) = false := decide_eq_false c109
             have Qi : decide (2 < a0.size) = false := decide_eq_false (by omega)
             clear c109
             replace H := Option.bind_eq_some_iff.mp H
             obtain ⟨qJ, A1270, H⟩ := H
             replace H : (if qJ.toList = a0.toList then (some (qa, qe, false, true)) else (some (([] : List Int), 0, false, false))) = some (r1, r2, r3, r4) := H
             have A127 := Aside0.mk A1270
             clear A1270
             by_cases c128 : qJ.toList = a0.toList
             ·
              rw [if_pos c128] at H
              have Ql : (qJ.toList == a0.toList) = true := beq_iff_eq.mpr c128
              have Qm : (qJ.toList != a0.toList) = false := bne_eq_false_iff_eq.mpr c128
              clear c128
              simp only [Option.some.injEq, Prod.mk.injEq] at H
              obtain ⟨rfl, rfl, rfl, rfl⟩ := H
              have ZK := qm.out
              have ZL := ql.out
              have QU : wc.cell? ⟨qf, 0, none⟩ = some (u126000) := bc_ qc 0
              have QV : wc.cell? ⟨qf, 1, none⟩ = some (.int .i64 qe) := bc_ qc 1
              have QW : wc.cell? ⟨qf, 2, none⟩ = some (.bool false) := bc_ qc 2
              have QX := blk_frozen qc.out 0
              have QY := blk_frozen qc.out 1
              have QZ := blk_frozen qc.out 2
              obtain ⟨qx, qr, eo131⟩ := Kd.R_slice qb.out
              subst eo131
              go_wp2_with (first | (go_at_call 12; (with_reducible refine (spec_FormatAtom.calls kj16 _ _ qa qe false qJ _ ?side1 ?side2 A127.out).mono ?_); (case side1 => refine (Kd.R_reads' (e := 3) (base := w.heap.size) (ok := fun k_ => True) (n := qa.length) (c := qr) ?_).2.2; exact (by (with_reducible repeat (first | apply Kd.R_alloc | apply Kd.R_drewN | apply Kd.R_drew)); exact (Kd.R_mono (Kd.R_far (p := ⟨qf, 2, none⟩) (Kd.R_types qb.out qc.out (by decide)) (fun _ hk => hk.2) (.bool false)) (fun _ h_ => h_.1)))); (case side2 => exact (Kd.R_reads' qb.out).2.1); rintro e qy ⟨rfl, hb⟩; replace qb := Aside0.mk (Kd.R_below (by (with_reducible repeat (first | apply Kd.R_alloc | apply Kd.R_drewN | apply Kd.R_drew)); exact (Kd.R_mono (Kd.R_far (p := ⟨qf, 2, none⟩) (Kd.R_types qb.out qc.out (by decide)) (fun _ hk => hk.2) (.bool false)) (fun _ h_ => h_.1))) hb); replace qd := Aside0.mk (blk_below (g := qh) (o := .cells #[.slice none 0 0, .int .i64 0, .bool false] 27 (0, 0)) (kf_ qd) hb); replace qc := Aside0.mk (blk_below (g := qf) (o := .cells #[.slice qx qa.length qr, .int .i64 qe, .bool false] 27 (0, 0)) (by (with_reducible repeat (first | refine blk_drewN ?_ _ | refine blk_drew ?_ | refine blk_alloc ?_ _)); refine blk_put (cs := #[.slice qx qa.length qr, .int .i64 qe, .bool false]) ?_ 2 _ rfl; (with_reducible repeat (first | refine blk_drewN ?_ _ | refine blk_drew ?_ | refine blk_alloc ?_ _)); exact qc.out) hb); replace HB := bS_ HB hb; (try clear hb); (try clear hb2); (try clear hk); (try clear hi); have zP : qy.cell? ⟨qf, 0, none⟩ = some (.slice qx qa.length qr) := bc_ qc 0; have zQ : qy.cell? ⟨qf, 1, none⟩ = some (.int .i64 qe) := bc_ qc 1; have zR : qy.cell? ⟨qf, 2, none⟩ = some (.bool false) := bc_ qc 2; have zS := blk_frozen qc.out 0; have zT := blk_frozen qc.out 1; have zU := blk_frozen qc.out 2; have zV : qy.cell? ⟨qh, 0, none⟩ = some (.slice none 0 0) := bc_ qd 0; have zW : qy.cell? ⟨qh, 1, none⟩ = some (.int .i64 0) := bc_ qd 1; have zX : qy.cell? ⟨qh, 2, none⟩ = some (.bool false) := bc_ qd 2; have zY := blk_frozen qd.out 0; have zZ := blk_frozen qd.out 1; have z0 := blk_frozen qd.out 2))
              repeat (go_quiet (first | (go_at_call 12; (with_reducible refine (spec_FormatAtom.calls kj16 _ _ qa qe false qJ _ ?side1 ?side2 A127.out).mono ?_); (case side1 => refine (Kd.R_reads' (e := 3) (base := w.heap.size) (ok := fun k_ => True) (n := qa.length) (c := qr) ?_).2.2; exact (by (with_reducible repeat (first | apply Kd.R_alloc | apply Kd.R_drewN | apply Kd.R_drew)); exact (Kd.R_mono (Kd.R_far (p := ⟨qf, 2, none⟩) (Kd.R_types qb.out qc.out (by decide)) (fun _ hk => hk.2) (.bool false)) (fun _ h_ => h_.1)))); (case side2 => exact (Kd.R_reads' qb.out).2.1); rintro e qy ⟨rfl, hb⟩; replace qb := Aside0.mk (Kd.R_below (by (with_reducible repeat (first | apply Kd.R_alloc | apply Kd.R_drewN | apply Kd.R_drew)); exact (Kd.R_mono (Kd.R_far (p := ⟨qf, 2, none⟩) (Kd.R_types qb.out qc.out (by decide)) (fun _ hk => hk.2) (.bool false)) (fun _ h_ => h_.1))) hb); replace qd := Aside0.mk (blk_below (g := qh) (o := .cells #[.slice none 0 0, .int .i64 0, .bool false] 27 (0, 0)) (kf_ qd) hb); replace qc := Aside0.mk (blk_below (g := qf) (o := .cells #[.slice qx qa.length qr, .int .i64 qe, .bool false] 27 (0, 0)) (by (with_reducible repeat (first | refine blk_drewN ?_ _ | refine blk_drew ?_ | refine blk_alloc ?_ _)); refine blk_put (cs := #[.slice qx qa.length qr, .int .i64 qe, .bool false]) ?_ 2 _ rfl; (with_reducible repeat (first | refine blk_drewN ?_ _ | refine blk_drew ?_ | refine blk_alloc ?_ _)); exact qc.out) hb); replace HB := bS_ HB hb; (try clear hb); (try clear hb2); (try clear hk); (try clear hi); have zP : qy.cell? ⟨qf, 0, none⟩ = some (.slice qx qa.length qr) := bc_ qc 0; have zQ : qy.cell? ⟨qf, 1, none⟩ = some (.int .i64 qe) := bc_ qc 1; have zR : qy.cell? ⟨qf, 2, none⟩ = some (.bool false) := bc_ qc 2; have zS := blk_frozen qc.out 0; have zT := blk_frozen qc.out 1; have zU := blk_frozen qc.out 2; have zV : qy.cell? ⟨qh, 0, none⟩ = some (.slice none 0 0) := bc_ qd 0; have zW : qy.cell? ⟨qh, 1, none⟩ = some (.int .i64 0) := bc_ qd 1; have zX : qy.cell? ⟨qh, 2, none⟩ = some (.bool false) := bc_ qd 2; have zY := blk_frozen qd.out 0; have zZ := blk_frozen qd.out 1; have z0 := blk_frozen qd.out 2)); try go_wp2_with (first | (go_at_call 12; (with_reducible refine (spec_FormatAtom.calls kj16 _ _ qa qe false qJ _ ?side1 ?side2 A127.out).mono ?_); (case side1 => refine (Kd.R_reads' (e := 3) (base := w.heap.size) (ok := fun k_ => True) (n := qa.length) (c := qr) ?_).2.2; exact (by (with_reducible repeat (first | apply Kd.R_alloc | apply Kd.R_drewN | apply Kd.R_drew)); exact (Kd.R_mono (Kd.R_far (p := ⟨qf, 2, none⟩) (Kd.R_types qb.out qc.out (by decide)) (fun _ hk => hk.2) (.bool false)) (fun _ h_ => h_.1)))); (case side2 => exact (Kd.R_reads' qb.out).2.1); rintro e qy ⟨rfl, hb⟩; replace qb := Aside0.mk (Kd.R_below (by (with_reducible repeat (first | apply Kd.R_alloc | apply Kd.R_drewN | apply Kd.R_drew)); exact (Kd.R_mono (Kd.R_far (p := ⟨qf, 2, none⟩) (Kd.R_types qb.out qc.out (by decide)) (fun _ hk => hk.2) (.bool false)) (fun _ h_ => h_.1))) hb); replace qd := Aside0.mk (blk_below (g := qh) (o := .cells #[.slice none 0 0, .int .i64 0, .bool false] 27 (0, 0)) (kf_ qd) hb); replace qc := Aside0.mk (blk_below (g := qf) (o := .cells #[.slice qx qa.length qr, .int .i64 qe, .bool false] 27 (0, 0)) (by (with_reducible repeat (first | refine blk_drewN ?_ _ | refine blk_drew ?_ | refine blk_alloc ?_ _)); refine blk_put (cs := #[.slice qx qa.length qr, .int .i64 qe, .bool false]) ?_ 2 _ rfl; (with_reducible repeat (first | refine blk_drewN ?_ _ | refine blk_drew ?_ | refine blk_alloc ?_ _)); exact qc.out) hb); replace HB := bS_ HB hb; (try clear hb); (try clear hb2); (try clear hk); (try clear hi); have zP : qy.cell? ⟨qf, 0, none⟩ = some (.slice qx qa.length qr) := bc_ qc 0; have zQ : qy.cell? ⟨qf, 1, none⟩ = some (.int .i64 qe) := bc_ qc 1; have zR : qy.cell? ⟨qf, 2, none⟩ = some (.bool false) := bc_ qc 2; have zS := blk_frozen qc.out 0; have zT := blk_frozen qc.out 1; have zU := blk_frozen qc.out 2; have zV : qy.cell? ⟨qh, 0, none⟩ = some (.slice none 0 0) := bc_ qd 0; have zW : qy.cell? ⟨qh, 1, none⟩ = some (.int .i64 0) := bc_ qd 1; have zX : qy.cell? ⟨qh, 2, none⟩ = some (.bool false) := bc_ qd 2; have zY := blk_frozen qd.out 0; have zZ := blk_frozen qd.out 1; have z0 := blk_frozen qd.out 2)))
              refine bodyPost_ret (results_ct rfl _ _ qh 27 #[.slice qx qa.length qr, .int .i64 qe, .bool false] (0, 0) _ rfl (by (with_reducible repeat (first | refine blk_drewN ?_ _ | refine blk_drew ?_ | refine blk_alloc ?_ _)); refine blk_put (cs := #[.slice qx qa.length qr, .int .i64 qe, .bool false]) ?_ 2 _ rfl; (with_reducible repeat (first | refine blk_drewN ?_ _ | refine blk_drew ?_ | refine blk_alloc ?_ _)); refine blk_put (cs := #[.slice qx qa.length qr, .int .i64 0, .bool false]) ?_ 1 _ rfl; (with_reducible repeat (first | refine blk_drewN ?_ _ | refine blk_drew ?_ | refine blk_alloc ?_ _)); refine blk_put (cs := #[.slice none 0 0, .int .i64 0, .bool false]) ?_ 0 _ rfl; (with_reducible repeat (first | refine blk_drewN ?_ _ | refine blk_drew ?_ | refine blk_alloc ?_ _)); exact qd.out) Tryd.underlying27 rfl (by kernel_rfl)) rfl ?_
              exact ⟨_, by first | rfl | (simp [errW_none, errW_some] <;> rfl) | (simp [*, errW_none, errW_some] <;> rfl), by (with_reducible repeat (first | apply Kd.R_alloc | apply Kd.R_drewN | apply Kd.R_drew)); exact Kd.R_mono (Kd.R_far (p := ⟨qh, 2, none⟩) (Kd.R_far (p := ⟨qh, 1, none⟩) (Kd.R_far (p := ⟨qh, 0, none⟩) (Kd.R_types qb.out qd.out (by decide)) (fun _ hk => hk.2) (.slice qx qa.length qr)) (fun _ hk => hk.2) (.int .i64 qe)) (fun _ hk => hk.2) (.bool false)) (fun _ hk => trivial), bb_ HB⟩
             ·
              rw [if_neg c128] at H
              have Ql : (qJ.toList == a0.toList) = false := beq_eq_false_iff_ne.mpr c128
              have Qm : (qJ.toList != a0.toList) = true := bne_iff_ne.mpr c128
              simp only [Option.some.injEq, Prod.mk.injEq] at H
              obtain ⟨rfl, rfl, rfl, rfl⟩ := H
              have ZM := qm.out
              have ZN := ql.out
              have Q0 : wc.cell? ⟨qf, 0, none⟩ = some (u126000) := bc_ qc 0
              have Q1 : wc.cell? ⟨qf, 1, none⟩ = some (.int .i64 qe) := bc_ qc 1
              have Q2 : wc.cell? ⟨qf, 2, none⟩ = some (.bool false) := bc_ qc 2
              have Q3 := blk_frozen qc.out 0
              have Q4 := blk_frozen qc.out 1
              have Q5 := blk_frozen qc.out 2
              obtain ⟨q8, qP, eo137⟩ := Kd.R_slice qb.out
              subst eo137
              go_wp2_with (first | (go_at_call 12; (with_reducible refine (spec_FormatAtom.calls kj16 _ _ qa qe false qJ _ ?side1 ?side2 A127.out).mono ?_); (case side1 => refine (Kd.R_reads' (e := 3) (base := w.heap.size) (ok := fun k_ => True) (n := qa.length) (c := qP) ?_).2.2; exact (by (with_reducible repeat (first | apply Kd.R_alloc | apply Kd.R_drewN | apply Kd.R_drew)); exact (Kd.R_mono (Kd.R_far (p := ⟨qf, 2, none⟩) (Kd.R_types qb.out qc.out (by decide)) (fun _ hk => hk.2) (.bool false)) (fun _ h_ => h_.1)))); (case side2 => exact (Kd.R_reads' qb.out).2.1); rintro e q1 ⟨rfl, hb⟩; replace qb := Aside0.mk (Kd.R_below (by (with_reducible repeat (first | apply Kd.R_alloc | apply Kd.R_drewN | apply Kd.R_drew)); exact (Kd.R_mono (Kd.R_far (p := ⟨qf, 2, none⟩) (Kd.R_types qb.out qc.out (by decide)) (fun _ hk => hk.2) (.bool false)) (fun _ h_ => h_.1))) hb); replace qd := Aside0.mk (blk_below (g := qh) (o := .cells #[.slice none 0 0, .int .i64 0, .bool false] 27 (0, 0)) (kf_ qd) hb); replace qc := Aside0.mk (blk_below (g := qf) (o := .cells #[.slice q8 qa.length qP, .int .i64 qe, .bool false] 27 (0, 0)) (by (with_reducible repeat (first | refine blk_drewN ?_ _ | refine blk_drew ?_ | refine blk_alloc ?_ _)); refine blk_put (cs := #[.slice q8 qa.length qP, .int .i64 qe, .bool false]) ?_ 2 _ rfl; (with_reducible repeat (first | refine blk_drewN ?_ _ | refine blk_drew ?_ | refine blk_alloc ?_ _)); exact qc.out) hb); replace HB := bS_ HB hb; (try clear hb); (try clear hb2); (try clear hk); (try clear hi); have z1 : q1.cell? ⟨qh, 0, none⟩ = some (.slice none 0 0) := bc_ qd 0; have z2 : q1.cell? ⟨qh, 1, none⟩ = some (.int .i64 0) := bc_ qd 1; have z3 : q1.cell? ⟨qh, 2, none⟩ = some (.bool false) := bc_ qd 2; have z4 := blk_frozen qd.out 0; have z5 := blk_frozen qd.out 1; have z6 := blk_frozen qd.out 2))
              repeat (go_quiet (first | (go_at_call 12; (with_reducible refine (spec_FormatAtom.calls kj16 _ _ qa qe false qJ _ ?side1 ?side2 A127.out).mono ?_); (case side1 => refine (Kd.R_reads' (e := 3) (base := w.heap.size) (ok := fun k_ => True) (n := qa.length) (c := qP) ?_).2.2; exact (by (with_reducible repeat (first | apply Kd.R_alloc | apply Kd.R_drewN | apply Kd.R_drew)); exact (Kd.R_mono (Kd.R_far (p := ⟨qf, 2, none⟩) (Kd.R_types qb.out qc.out (by decide)) (fun _ hk => hk.2) (.bool false)) (fun _ h_ => h_.1)))); (case side2 => exact (Kd.R_reads' qb.out).2.1); rintro e q1 ⟨rfl, hb⟩; replace qb := Aside0.mk (Kd.R_below (by (with_reducible repeat (first | apply Kd.R_alloc | apply Kd.R_drewN | apply Kd.R_drew)); exact (Kd.R_mono (Kd.R_far (p := ⟨qf, 2, none⟩) (Kd.R_types qb.out qc.out (by decide)) (fun _ hk => hk.2) (.bool false)) (fun _ h_ => h_.1))) hb); replace qd := Aside0.mk (blk_below (g := qh) (o := .cells #[.slice none 0 0, .int .i64 0, .bool false] 27 (0, 0)) (kf_ qd) hb); replace qc := Aside0.mk (blk_below (g := qf) (o := .cells #[.slice q8 qa.length qP, .int .i64 qe, .bool false] 27 (0, 0)) (by (with_reducible repeat (first | refine blk_drewN ?_ _ | refine blk_drew ?_ | refine blk_alloc ?_ _)); refine blk_put (cs := #[.slice q8 qa.length qP, .int .i64 qe, .bool false]) ?_ 2 _ rfl; (with_reducible repeat (first | refine blk_drewN ?_ _ | refine blk_drew ?_ | refine blk_alloc ?_ _)); exact qc.out) hb); replace HB := bS_ HB hb; (try clear hb); (try clear hb2); (try clear hk); (try clear hi); have z1 : q1.cell? ⟨qh, 0, none⟩ = some (.slice none 0 0) := bc_ qd 0; have z2 : q1.cell? ⟨qh, 1, none⟩ = some (.int .i64 0) := bc_ qd 1; have z3 : q1.cell? ⟨qh, 2, none⟩ = some (.bool false) := bc_ qd 2; have z4 := blk_frozen qd.out 0; have z5 := blk_frozen qd.out 1; have z6 := blk_frozen qd.out 2)); try go_wp2_with (first | (go_at_call 12; (with_reducible refine (spec_FormatAtom.calls kj16 _ _ qa qe false qJ _ ?side1 ?side2 A127.out).mono ?_); (case side1 => refine (Kd.R_reads' (e := 3) (base := w.heap.size) (ok := fun k_ => True) (n := qa.length) (c := qP) ?_).2.2; exact (by (with_reducible repeat (first | apply Kd.R_alloc | apply Kd.R_drewN | apply Kd.R_drew)); exact (Kd.R_mono (Kd.R_far (p := ⟨qf, 2, none⟩) (Kd.R_types qb.out qc.out (by decide)) (fun _ hk => hk.2) (.bool false)) (fun _ h_ => h_.1)))); (case side2 => exact (Kd.R_reads' qb.out).2.1); rintro e q1 ⟨rfl, hb⟩; replace qb := Aside0.mk (Kd.R_below (by (with_reducible repeat (first | apply Kd.R_alloc | apply Kd.R_drewN | apply Kd.R_drew)); exact (Kd.R_mono (Kd.R_far (p := ⟨qf, 2, none⟩) (Kd.R_types qb.out qc.out (by decide)) (fun _ hk => hk.2) (.bool false)) (fun _ h_ => h_.1))) hb); replace qd := Aside0.mk (blk_below (g := qh) (o := .cells #[.slice none 0 0, .int .i64 0, .bool false] 27 (0, 0)) (kf_ qd) hb); replace qc := Aside0.mk (blk_below (g := qf) (o := .cells #[.slice q8 qa.length qP, .int .i64 qe, .bool false] 27 (0, 0)) (by (with_reducible repeat (first | refine blk_drewN ?_ _ | refine blk_drew ?_ | refine blk_alloc ?_ _)); refine blk_put (cs := #[.slice q8 qa.length qP, .int .i64 qe, .bool false]) ?_ 2 _ rfl; (with_reducible repeat (first | refine blk_drewN ?_ _ | refine blk_drew ?_ | refine blk_alloc ?_ _)); exact qc.out) hb); replace HB := bS_ HB hb; (try clear hb); (try clear hb2); (try clear hk); (try clear hi); have z1 : q1.cell? ⟨qh, 0, none⟩ = some (.slice none 0 0) := bc_ qd 0; have z2 : q1.cell? ⟨qh, 1, none⟩ = some (.int .i64 0) := bc_ qd 1; have z3 : q1.cell? ⟨qh, 2, none⟩ = some (.bool false) := bc_ qd 2; have z4 := blk_frozen qd.out 0; have z5 := blk_frozen qd.out 1; have z6 := blk_frozen qd.out 2)))
              refine bodyPost_ret (results_ct rfl _ _ qh 27 #[.slice none 0 0, .int .i64 0, .bool false] (0, 0) _ rfl (by (with_reducible repeat (first | refine blk_drewN ?_ _ | refine blk_drew ?_ | refine blk_alloc ?_ _)); refine blk_put (cs := #[.slice none 0 0, .int .i64 0, .bool false]) ?_ 2 _ rfl; (with_reducible repeat (first | refine blk_drewN ?_ _ | refine blk_drew ?_ | refine blk_alloc ?_ _)); refine blk_put (cs := #[.slice none 0 0, .int .i64 0, .bool false]) ?_ 1 _ rfl; (with_reducible repeat (first | refine blk_drewN ?_ _ | refine blk_drew ?_ | refine blk_alloc ?_ _)); refine blk_put (cs := #[.slice none 0 0, .int .i64 0, .bool false]) ?_ 0 _ rfl; (with_reducible repeat (first | refine blk_drewN ?_ _ | refine blk_drew ?_ | refine blk_alloc ?_ _)); exact qd.out) Tryd.underlying27 rfl (by kernel_rfl)) rfl ?_
              exact ⟨_, by first | rfl | (simp [errW_none, errW_some] <;> rfl) | (simp [*, errW_none, errW_some] <;> rfl), by first | exact Kd.R_nil _ _ _ _ _ | exact Kd.N_nil _ _ _ _ _ | exact Kd.V_nil _ _ _ _ _ | exact Kd.Q_nil _ _ _ _ _ | exact Kd.S_nil _ _ _ _ _, bb_ HB⟩
     ·
      rw [if_neg c10] at H
      exact absurd H (by simp)
    ·
     rw [if_neg c9] at H
     exact absurd H (by simp)

/-! ### impl_IsNumber: function 61 -/
def impl_IsNumber.f (a0 : Int) : Option (Bool) := if a0 ≥ (-400000000) then (some (decide (a0 ≤ 400000000))) else (some false)
set_option maxHeartbeats 8000000 in
set_option maxRecDepth 100000 in
theorem impl_IsNumber.calls (a0 : Int) (r : Bool) (w : World) (h : impl_IsNumber.f a0 = some r) :
  Calls Tryd.prog 61 #[.int .i64 a0] w fun e w' => e = .returned (.bool r) ∧ Drawn0 w w' := by
 have H : (if a0 ≥ (-400000000) then (some (decide (a0 ≤ 400000000))) else (some false)) = some r := h
 clear h
 by_cases c2 : a0 ≥ (-400000000)
 ·
  rw [if_pos c2] at H
  have qa : decide ((-400000000) ≤ a0) = true := decide_eq_true c2
  clear c2
  obtain rfl := Option.some.inj H
  go_enter Tryd.func61, Tryd.ntmps61
  go_wp2
  go_ret
  exact ⟨by first | rfl | (simp; done) | (simp [*]; done), by repeat (first | exact Drawn0.refl _ | apply Drawn0.step)⟩
 ·
  rw [if_neg c2] at H
  have qa : decide ((-400000000) ≤ a0) = false := decide_eq_false c2
  clear c2
  obtain rfl := Option.some.inj H
  go_enter Tryd.func61, Tryd.ntmps61
  go_wp2
  go_ret
  exact ⟨by first | rfl | (simp; done) | (simp [*]; done), by repeat (first | exact Drawn0.refl _ | apply Drawn0.step)⟩

/-! ### impl_absolute: function 110 -/
def impl_absolute.f (a0 : Int) : Option (Int) := if a0 < 0 then (some (wrap64 (-a0))) else (some a0)
set_option maxHeartbeats 8000000 in
set_option maxRecDepth 100000 in
theorem impl_absolute.calls (a0 : Int) (r : Int) (w : World) (h : impl_absolute.f a0 = some r) :
  Calls Tryd.prog 110 #[.int .i64 a0] w fun e w' => e = .returned (.int .i64 r) ∧ Drawn0 w w' := by
 have H : (if a0 < 0 then (some (wrap64 (-a0))) else (some a0)) = some r := h
 clear h
 by_cases c2 : a0 < 0
 ·
  rw [if_pos c2] at H
  have qa : decide (a0 < 0) = true := decide_eq_true c2
  clear c2
  obtain rfl := Option.some.inj H
  go_enter Tryd.func110, Tryd.ntmps110
  go_wp2
  go_ret
  exact ⟨by first | rfl | (simp; done) | (simp [*]; done), by repeat (first | exact Drawn0.refl _ | apply Drawn0.step)⟩
 ·
  rw [if_neg c2] at H
  have qa : decide (a0 < 0) = false := decide_eq_false c2
  clear c2
  obtain rfl := Option.some.inj H
  go_enter Tryd.func110, Tryd.ntmps110
  go_wp2
  go_ret
  exact ⟨by first | rfl | (simp; done) | (simp [*]; done), by repeat (first | exact Drawn0.refl _ | apply Drawn0.step)⟩

/-! ### impl_commonDivisor: function 92 -/
def impl_commonDivisor.l0 : Nat → Int → Int → Option (Int)
 | 0, _, _ => none
 | k + 1, x0, x1 => if x1 = 0 then (some x0) else (impl_commonDivisor.l0 k x1 (Int.tmod x0 x1))
def impl_commonDivisor.f (k : Nat) (a0 : Int) (a1 : Int) : Option (Int) := (impl_absolute.f a0).bind fun qb => ((impl_absolute.f a1).bind fun qa => (impl_commonDivisor.l0 k qb qa))
theorem impl_commonDivisor.mono_l : ∀ k, (∀ y0 y1, LeO (impl_commonDivisor.l0 k y0 y1) (impl_commonDivisor.l0 (k + 1) y0 y1))
 | 0 => fun _ _ r h => by simp [impl_commonDivisor.l0] at h
 | k + 1 => by
  have ih0 := impl_commonDivisor.mono_l k
  ·
   intro y0 y1
   unfold impl_commonDivisor.l0
   repeat' first
   | (with_reducible exact ih0 _ _)
   | (with_reducible exact LeO.refl _)
   | (with_reducible exact LeO.none _)
   | (with_reducible refine LeO.ite ?_ ?_)
   | (with_reducible refine LeO.bind ?_ (fun _ => ?_))
   | exact ih0 _ _
   | exact LeO.none _
   | refine LeO.ite ?_ ?_
   | refine LeO.bind ?_ (fun _ => ?_)
theorem impl_commonDivisor.mono : ∀ a0 a1 k, LeO (impl_commonDivisor.f k a0 a1) (impl_commonDivisor.f (k + 1) a0 a1) := by
 intro a0 a1 k
 have ih0 := impl_commonDivisor.mono_l k
 unfold impl_commonDivisor.f
 repeat' first
   | (with_reducible exact ih0 _ _)
   | (with_reducible exact LeO.refl _)
   | (with_reducible exact LeO.none _)
   | (with_reducible refine LeO.ite ?_ ?_)
   | (with_reducible refine LeO.bind ?_ (fun _ => ?_))
   | exact ih0 _ _
   | exact LeO.none _
   | refine LeO.ite ?_ ?_
   | refine LeO.bind ?_ (fun _ => ?_)
set_option maxHeartbeats 8000000 in
set_option maxRecDepth 100000 in
theorem impl_commonDivisor.calls (k : Nat) (a0 : Int) (a1 : Int) (r : Int) (w : World) (h : impl_commonDivisor.f k a0 a1 = some r) :
  Calls Tryd.prog 92 #[.int .i64 a0, .int .i64 a1] w fun e w' => e = .returned (.int .i64 r) ∧ Drawn0 w w' := by
 have H : ((impl_absolute.f a0).bind fun qb => ((impl_absolute.f a1).bind fun qa => (impl_commonDivisor.l0 k qb qa))) = some r := h
 clear h
 replace H := Option.bind_eq_some_iff.mp H
 obtain ⟨qb, A30, H⟩ := H
 replace H : ((impl_absolute.f a1).bind fun qa => (impl_commonDivisor.l0 k qb qa)) = some r := H
 have A3 := Aside0.mk A30
 clear A30
 replace H := Option.bind_eq_some_iff.mp H
 obtain ⟨qa, A40, H⟩ := H
 replace H : (impl_commonDivisor.l0 k qb qa) = some r := H
 have A4 := Aside0.mk A40
 clear A40
 have H' := Aside0.mk H
 clear H
 go_enter Tryd.func92, Tryd.ntmps92
 go_wp2_with (first | (go_at_call 110; (with_reducible refine (impl_absolute.calls a0 qb _ A3.out).mono ?_); rintro e w' ⟨rfl, ⟨nd, rfl⟩⟩; (try first | exact ⟨rfl, _, World.drewN_drewN _ _ _⟩ | exact ⟨rfl, _, Eq.trans (World.drewN_drewN _ _ _) (congrArg (World.drewN _) (Nat.add_assoc _ _ _))⟩)) | (go_at_call 110; (with_reducible refine (impl_absolute.calls a1 qa _ A4.out).mono ?_); rintro e w' ⟨rfl, ⟨nd, rfl⟩⟩; (try first | exact ⟨rfl, _, World.drewN_drewN _ _ _⟩ | exact ⟨rfl, _, Eq.trans (World.drewN_drewN _ _ _) (congrArg (World.drewN _) (Nat.add_assoc _ _ _))⟩)))
 repeat (go_quiet (first | (go_at_call 110; (with_reducible refine (impl_absolute.calls a0 qb _ A3.out).mono ?_); rintro e w' ⟨rfl, ⟨nd, rfl⟩⟩; (try first | exact ⟨rfl, _, World.drewN_drewN _ _ _⟩ | exact ⟨rfl, _, Eq.trans (World.drewN_drewN _ _ _) (congrArg (World.drewN _) (Nat.add_assoc _ _ _))⟩)) | (go_at_call 110; (with_reducible refine (impl_absolute.calls a1 qa _ A4.out).mono ?_); rintro e w' ⟨rfl, ⟨nd, rfl⟩⟩; (try first | exact ⟨rfl, _, World.drewN_drewN _ _ _⟩ | exact ⟨rfl, _, Eq.trans (World.drewN_drewN _ _ _) (congrArg (World.drewN _) (Nat.add_assoc _ _ _))⟩))); try go_wp2_with (first | (go_at_call 110; (with_reducible refine (impl_absolute.calls a0 qb _ A3.out).mono ?_); rintro e w' ⟨rfl, ⟨nd, rfl⟩⟩; (try first | exact ⟨rfl, _, World.drewN_drewN _ _ _⟩ | exact ⟨rfl, _, Eq.trans (World.drewN_drewN _ _ _) (congrArg (World.drewN _) (Nat.add_assoc _ _ _))⟩)) | (go_at_call 110; (with_reducible refine (impl_absolute.calls a1 qa _ A4.out).mono ?_); rintro e w' ⟨rfl, ⟨nd, rfl⟩⟩; (try first | exact ⟨rfl, _, World.drewN_drewN _ _ _⟩ | exact ⟨rfl, _, Eq.trans (World.drewN_drewN _ _ _) (congrArg (World.drewN _) (Nat.add_assoc _ _ _))⟩))))
 go_loopg [0, 1] k (fun kq v0 v1 w' => ∃ (qd : Int) (qc : Int), v0 = .int .i64 qd ∧ v1 = .int .i64 qc ∧ Aside0 (impl_commonDivisor.l0 kq qd qc = some r) ∧ Aside0 (kq ≤ k) ∧ Drawn0 w w')
 case atStart => exact ⟨(qb), (qa), (by first | rfl | (simp; done) | (simp [*]; done)), (by first | rfl | (simp; done) | (simp [*]; done)), H', ⟨Nat.le_refl _⟩, by repeat (first | exact Drawn0.refl _ | apply Drawn0.step)⟩
 case round =>
  clear H'
  try clear p2
  obtain ⟨qd, qc, rfl, rfl, HA, HK1, ⟨m1, rfl⟩⟩ := hrel
  cases gk with
  | zero => exact absurd HA.out (by simp [impl_commonDivisor.l0])
  | succ k1 =>
   have H := HA.out
   clear HA
   simp only [impl_commonDivisor.l0] at H
   by_cases c5 : qc = 0
   ·
    rw [if_pos c5] at H
    have qe : (qc == 0) = true := beq_iff_eq.mpr c5
    have qf : (qc != 0) = false := bne_eq_false_iff_eq.mpr c5
    clear c5
    obtain rfl := Option.some.inj H
    go_wp2
    repeat (go_quiet (fail); try go_wp2)
    go_ret
    exact ⟨by first | rfl | (simp; done) | (simp [*]; done), by repeat (first | exact Drawn0.refl _ | apply Drawn0.step)⟩
   ·
    rw [if_neg c5] at H
    have qe : (qc == 0) = false := beq_eq_false_iff_ne.mpr c5
    have qf : (qc != 0) = true := bne_iff_ne.mpr c5
    have H' := Aside0.mk H
    clear H
    go_wp2
    repeat (go_quiet (fail); try go_wp2)
    go_roundg k1
    case measure => have := HK1.out; omega
    case rel => exact ⟨(qc), (Int.tmod qd qc), (by first | rfl | (simp; done) | (simp [*]; done)), (by first | rfl | (simp; done) | (simp [*]; done)), H', ⟨by have := HK1.out; omega⟩, by repeat (first | exact Drawn0.refl _ | apply Drawn0.step)⟩

/-! ### impl_divisorOf: function 93 -/
def impl_divisorOf.l0 : Nat → Int → List Int → Int → Int → Option (Int)
 | 0, _, _, _, _ => none
 | k + 1, x3, x6, x7, x8 => if x8 < x7 then (if 0 ≤ x8 then (if x8 < (x6.length : Int) then ((impl_commonDivisor.f k x3 (rd x6 x8)).bind fun qb => (impl_divisorOf.l0 k qb x6 x7 (wrap64 (x8 + 1)))) else (none)) else (none)) else (some x3)
def impl_divisorOf.f (k : Nat) (l0 : List Int) : Option (Int) := impl_divisorOf.l0 k 0 l0 (l0.length : Int) 0
theorem impl_divisorOf.mono_l : ∀ k, (∀ y0 y1 y2 y3, LeO (impl_divisorOf.l0 k y0 y1 y2 y3) (impl_divisorOf.l0 (k + 1) y0 y1 y2 y3))
 | 0 => fun _ _ _ _ r h => by simp [impl_divisorOf.l0] at h
 | k + 1 => by
  have ih0 := impl_divisorOf.mono_l k
  ·
   intro y0 y1 y2 y3
   unfold impl_divisorOf.l0
   repeat' first
   | (with_reducible exact ih0 _ _ _ _)
   | (with_reducible exact impl_commonDivisor.mono _ _ _)
   | (with_reducible exact LeO.refl _)
   | (with_reducible exact LeO.none _)
   | (with_reducible refine LeO.ite ?_ ?_)
   | (with_reducible refine LeO.bind ?_ (fun _ => ?_))
   | exact ih0 _ _ _ _
   | exact impl_commonDivisor.mono _ _ _
   | exact LeO.none _
   | refine LeO.ite ?_ ?_
   | refine LeO.bind ?_ (fun _ => ?_)
theorem impl_divisorOf.mono : ∀ a0 k, LeO (impl_divisorOf.f k a0) (impl_divisorOf.f (k + 1) a0) := by
 intro a0 k
 have ih0 := impl_divisorOf.mono_l k
 unfold impl_divisorOf.f
 repeat' first
   | (with_reducible exact ih0 _ _ _ _)
   | (with_reducible exact impl_commonDivisor.mono _ _ _)
   | (with_reducible exact LeO.refl _)
   | (with_reducible exact LeO.none _)
   | (with_reducible refine LeO.ite ?_ ?_)
   | (with_reducible refine LeO.bind ?_ (fun _ => ?_))
   | exact ih0 _ _ _ _
   | exact impl_commonDivisor.mono _ _ _
   | exact LeO.none _
   | refine LeO.ite ?_ ?_
   | refine LeO.bind ?_ (fun _ => ?_)
set_option maxHeartbeats 8000000 in
set_option maxRecDepth 100000 in
theorem impl_divisorOf.calls (k : Nat) (A0 : Option Addr) (c0 : Nat) (l0 : List Int) (r : Int) (w : World) (hr0 : Kd.C (Kd.int .i64) w A0 l0.length l0) (hc0 : l0.length ≤ c0) (h : impl_divisorOf.f k l0 = some r) :
  Calls Tryd.prog 93 #[.slice A0 l0.length c0] w fun e w' => e = .returned (.int .i64 r) ∧ Drawn0 w w' := by
 have HR0 := Aside0.mk hr0
 have HC0 := Aside0.mk hc0
 clear hr0 hc0
 have H : (impl_divisorOf.l0 k 0 l0 (l0.length : Int) 0) = some r := h
 clear h
 have H' := Aside0.mk H
 clear H
 go_enter Tryd.func93, Tryd.ntmps93
 go_wp2
 go_loopg [3, 8] k (fun kq v3 v8 w' => ∃ (qc : Int) (qa : Int), v3 = .int .i64 qc ∧ v8 = .int .i64 qa ∧ Aside0 (impl_divisorOf.l0 kq qc l0 (l0.length : Int) qa = some r) ∧ Aside0 (kq ≤ k) ∧ Drawn0 w w')
 case atStart => exact ⟨(0), (0), (by first | rfl | (simp; done) | (simp [*]; done)), (by first | rfl | (simp; done) | (simp [*]; done)), H', ⟨Nat.le_refl _⟩, by repeat (first | exact Drawn0.refl _ | apply Drawn0.step)⟩
 case round =>
  clear H'
  obtain ⟨qc, qa, rfl, rfl, HA, HK1, ⟨m1, rfl⟩⟩ := hrel
  cases gk with
  | zero => exact absurd HA.out (by simp [impl_divisorOf.l0])
  | succ k1 =>
   have H := HA.out
   clear HA
   simp only [impl_divisorOf.l0] at H
   by_cases c2 : qa < (l0.length : Int)
   ·
    rw [if_pos c2] at H
    have qe : decide (qa < (l0.length : Int)) = true := decide_eq_true c2
    clear c2
    by_cases c3 : 0 ≤ qa
    ·
     rw [if_pos c3] at H
     have qg : decide (0 ≤ qa) = true := decide_eq_true c3
     clear c3
     by_cases c4 : qa < (l0.length : Int)
     ·
      rw [if_pos c4] at H
      have qh : decide (qa < (l0.length : Int)) = true := decide_eq_true c4
      clear c4
      replace H := Option.bind_eq_some_iff.mp H
      obtain ⟨qb, A50, H⟩ := H
      replace H : (impl_divisorOf.l0 k1 qb l0 (l0.length : Int) (wrap64 (qa + 1))) = some r := H
      have A5 := Aside0.mk A50
      clear A50
      have H' := Aside0.mk H
      clear H
      have p134 : 0 ≤ (qa : Int) := of_decide_eq_true (by first | (with_reducible assumption) | assumption)
      have q134 : qa < (l0.length : Int) := of_decide_eq_true (by first | (with_reducible assumption) | assumption)
      obtain ⟨qf, e134, qd⟩ := Kd.at_int HR0.out qa p134 q134
      cases e134
      replace p134 := eq_true p134
      replace q134 := eq_true q134
      go_wp2_with (first | ((with_reducible refine gate_callee (f := 92) rfl ?_); refine goesL_ (some 14) rfl rfl Tryd.func92 (by kernel_rfl) rfl #[.int .i64 qc, .int .i64 (rd l0 qa)] rfl (by (try simp only [List.map_toArray, List.map_cons, List.map_nil]); first | done | rfl | (simp only [List.length_drop, List.length_take]; rfl)) ?_; (with_reducible refine (impl_commonDivisor.calls k1 qc (rd l0 qa) qb _ A5.out).mono ?_); rintro e w' ⟨rfl, ⟨nd, rfl⟩⟩; refine ⟨_, rfl, ?_⟩))
      go_roundg k1
      case measure => have := HK1.out; omega
      case rel => exact ⟨(qb), (wrap64 (qa + 1)), (by first | rfl | (simp; done) | (simp [*]; done)), (by first | rfl | (simp; done) | (simp [*]; done)), H', ⟨by have := HK1.out; omega⟩, by repeat (first | exact Drawn0.refl _ | apply Drawn0.step)⟩
     ·
      rw [if_neg c4] at H
      exact absurd H (by simp)
    ·
     rw [if_neg c3] at H
     exact absurd H (by simp)
   ·
    rw [if_neg c2] at H
    have qe : decide (qa < (l0.length : Int)) = false := decide_eq_false c2
    clear c2
    obtain rfl := Option.some.inj H
    go_wp2
    go_ret
    exact ⟨by first | rfl | (simp; done) | (simp [*]; done), by repeat (first | exact Drawn0.refl _ | apply Drawn0.step)⟩

/-! ### impl_IsAtom: function 52 -/
mutual
def impl_IsAtom.j0 : Nat → Bool → List Int → Int → Bool → Option (Bool)
 | 0, _, _, _, _ => none
 | k + 1, x14, x137000, x137001, x137002 => if x14 = true then (some false) else (impl_IsAtom.l0 k x137000 (x137000.length : Int) 0 x137000 x137001 x137002)
def impl_IsAtom.l0 : Nat → List Int → Int → Int → List Int → Int → Bool → Option (Bool)
 | 0, _, _, _, _, _, _ => none
 | k + 1, x16, x17, x18, x137000, x137001, x137002 => if x18 < x17 then (if 0 ≤ x18 then (if x18 < (x16.length : Int) then ((impl_IsNumber.f (rd x16 x18)).bind fun qx => (if qx = true then (impl_IsAtom.l0 k x16 x17 (wrap64 (x18 + 1)) x137000 x137001 x137002) else (some false))) else (none)) else (none)) else ((impl_divisorOf.f k x137000).bind fun qe => ((impl_commonDivisor.f k qe x137001).bind fun qg => (some (decide (qg ≤ 1)))))
end
def impl_IsAtom.f (k : Nat) (l0_0 : List Int) (a0_1 : Int) (a0_2 : Bool) : Option (Bool) := if (l0_0.length : Int) > 4 then (impl_IsAtom.j0 k true l0_0 a0_1 a0_2) else ((impl_IsNumber.f a0_1).bind fun qf => (impl_IsAtom.j0 k (!qf) l0_0 a0_1 a0_2))
theorem impl_IsAtom.mono_l : ∀ k, (∀ y0 y1 y2 y3, LeO (impl_IsAtom.j0 k y0 y1 y2 y3) (impl_IsAtom.j0 (k + 1) y0 y1 y2 y3)) ∧ (∀ y0 y1 y2 y3 y4 y5, LeO (impl_IsAtom.l0 k y0 y1 y2 y3 y4 y5) (impl_IsAtom.l0 (k + 1) y0 y1 y2 y3 y4 y5))
 | 0 => ⟨fun _ _ _ _ r h => by simp [impl_IsAtom.j0] at h, fun _ _ _ _ _ _ r h => by simp [impl_IsAtom.l0] at h⟩
 | k + 1 => by
  obtain ⟨ih0, ih1⟩ := impl_IsAtom.mono_l k
  refine ⟨?_, ?_⟩
  ·
   intro y0 y1 y2 y3
   unfold impl_IsAtom.j0
   repeat' first
   | (with_reducible exact ih0 _ _ _ _)
   | (with_reducible exact ih1 _ _ _ _ _ _)
   | (with_reducible exact impl_commonDivisor.mono _ _ _)
   | (with_reducible exact impl_divisorOf.mono _ _)
   | (with_reducible exact LeO.refl _)
   | (with_reducible exact LeO.none _)
   | (with_reducible refine LeO.ite ?_ ?_)
   | (with_reducible refine LeO.bind ?_ (fun _ => ?_))
   | exact ih0 _ _ _ _
   | exact ih1 _ _ _ _ _ _
   | exact impl_commonDivisor.mono _ _ _
   | exact impl_divisorOf.mono _ _
   | exact LeO.none _
   | refine LeO.ite ?_ ?_
   | refine LeO.bind ?_ (fun _ => ?_)
  ·
   intro y0 y1 y2 y3 y4 y5
   unfold impl_IsAtom.l0
   repeat' first
   | (with_reducible exact ih0 _ _ _ _)
   | (with_reducible exact ih1 _ _ _ _ _ _)
   | (with_reducible exact impl_commonDivisor.mono _ _ _)
   | (with_reducible exact impl_divisorOf.mono _ _)
   | (with_reducible exact LeO.refl _)
   | (with_reducible exact LeO.none _)
   | (with_reducible refine LeO.ite ?_ ?_)
   | (with_reducible refine LeO.bind ?_ (fun _ => ?_))
   | exact ih0 _ _ _ _
   | exact ih1 _ _ _ _ _ _
   | exact impl_commonDivisor.mono _ _ _
   | exact impl_divisorOf.mono _ _
   | exact LeO.none _
   | refine LeO.ite ?_ ?_
   | refine LeO.bind ?_ (fun _ => ?_)
theorem impl_IsAtom.mono : ∀ a0 a1 a2 k, LeO (impl_IsAtom.f k a0 a1 a2) (impl_IsAtom.f (k + 1) a0 a1 a2) := by
 intro a0 a1 a2 k
 obtain ⟨ih0, ih1⟩ := impl_IsAtom.mono_l k
 unfold impl_IsAtom.f
 repeat' first
   | (with_reducible exact ih0 _ _ _ _)
   | (with_reducible exact ih1 _ _ _ _ _ _)
   | (with_reducible exact impl_commonDivisor.mono _ _ _)
   | (with_reducible exact impl_divisorOf.mono _ _)
   | (with_reducible exact LeO.refl _)
   | (with_reducible exact LeO.none _)
   | (with_reducible refine LeO.ite ?_ ?_)
   | (with_reducible refine LeO.bind ?_ (fun _ => ?_))
   | exact ih0 _ _ _ _
   | exact ih1 _ _ _ _ _ _
   | exact impl_commonDivisor.mono _ _ _
   | exact impl_divisorOf.mono _ _
   | exact LeO.none _
   | refine LeO.ite ?_ ?_
   | refine LeO.bind ?_ (fun _ => ?_)
set_option maxHeartbeats 8000000 in
set_option maxRecDepth 100000 in
theorem impl_IsAtom.calls (k : Nat) (A0_0 : Option Addr) (c0_0 : Nat) (l0_0 : List Int) (a0_1 : Int) (a0_2 : Bool) (r : Bool) (w : World) (hr0_0 : Kd.C (Kd.int .i64) w A0_0 l0_0.length l0_0) (hc0_0 : l0_0.length ≤ c0_0) (h : impl_IsAtom.f k l0_0 a0_1 a0_2 = some r) :
  Calls Tryd.prog 52 #[.agg #[.slice A0_0 l0_0.length c0_0, .int .i64 a0_1, .bool a0_2]] w fun e w' => e = .returned (.bool r) ∧ Below w.heap.size w w' := by
 have hu27 := Tryd.underlying27
 have qh := Aside0.mk hr0_0
 have qk := Aside0.mk hc0_0
 clear hr0_0 hc0_0
 have HB := Aside0.mk (Below.refl w.heap.size w)
 have H : (if (l0_0.length : Int) > 4 then (impl_IsAtom.j0 k true l0_0 a0_1 a0_2) else ((impl_IsNumber.f a0_1).bind fun qf => (impl_IsAtom.j0 k (!qf) l0_0 a0_1 a0_2))) = some r := h
 clear h
 have HC2 := Aside0.mk H
 clear H
 go_enter Tryd.func52, Tryd.ntmps52
 go_upto_region 1 with (first | ((with_reducible refine gate_dst (N := 1) rfl ?_); refine box_event ?hg (N := 1) ?hd (cs := #[.slice A0_0 l0_0.length c0_0, .int .i64 a0_1, .bool a0_2]) (t := 27) ?hr ?_; (case hd => rfl); (case hg => rfl); (case hr => first | (go_simp; done) | (go_simp; rfl)); intro qc hg w3 hbox hb; have qa := Aside0.mk (hbox); have qy := Aside0.mk ((by rw [hg]; exact (bz_ HB) : w.heap.size ≤ qc)); have qz := Aside0.mk ((by rw [hg]; exact (bz_ HB) : w.heap.size ≤ qc)); replace HB := bS_ HB hb; clear hb hbox hg))
 repeat (go_quiet (first | ((with_reducible refine gate_dst (N := 1) rfl ?_); refine box_event ?hg (N := 1) ?hd (cs := #[.slice A0_0 l0_0.length c0_0, .int .i64 a0_1, .bool a0_2]) (t := 27) ?hr ?_; (case hd => rfl); (case hg => rfl); (case hr => first | (go_simp; done) | (go_simp; rfl)); intro qc hg w3 hbox hb; have qa := Aside0.mk (hbox); have qy := Aside0.mk ((by rw [hg]; exact (bz_ HB) : w.heap.size ≤ qc)); have qz := Aside0.mk ((by rw [hg]; exact (bz_ HB) : w.heap.size ≤ qc)); replace HB := bS_ HB hb; clear hb hbox hg)); go_upto_region 1 with (first | ((with_reducible refine gate_dst (N := 1) rfl ?_); refine box_event ?hg (N := 1) ?hd (cs := #[.slice A0_0 l0_0.length c0_0, .int .i64 a0_1, .bool a0_2]) (t := 27) ?hr ?_; (case hd => rfl); (case hg => rfl); (case hr => first | (go_simp; done) | (go_simp; rfl)); intro qc hg w3 hbox hb; have qa := Aside0.mk (hbox); have qy := Aside0.mk ((by rw [hg]; exact (bz_ HB) : w.heap.size ≤ qc)); have qz := Aside0.mk ((by rw [hg]; exact (bz_ HB) : w.heap.size ≤ qc)); replace HB := bS_ HB hb; clear hb hbox hg)))
 (try simp only [Act.put, List.setIfInBounds_toArray, List.set_cons_zero, List.set_cons_succ])
 go_cut [14] (fun v14 wc => ∃ (kq : Nat) (qj : Bool), v14 = .bool qj ∧ Aside0 (impl_IsAtom.j0 kq qj l0_0 a0_1 a0_2 = some r) ∧ Aside0 (kq ≤ k) ∧ Aside0 (wc.heap[qc]? = some (.cells #[(.slice A0_0 l0_0.length c0_0), .int .i64 a0_1, .bool a0_2] 27 (0, 0))) ∧ Aside0 (Below w.heap.size w wc))
 case first =>
  have H := HC2.out
  clear HC2
  by_cases c4 : (l0_0.length : Int) > 4
  ·
   rw [if_pos c4] at H
   have qi : decide (4 < (l0_0.length : Int)) = true := decide_eq_true c4
   have qA : decide (4 < l0_0.length) = true := decide_eq_true (by omega)
   clear c4
   (first | rw [qi] | (simp only [i64_w, i32_w]; rw [qi]) | skip)
   have H' := Aside0.mk H
   clear H
   have ql : w3.cell? ⟨qc, 0, none⟩ = some (.slice A0_0 l0_0.length c0_0) := bc_ qa 0
   have qm : w3.cell? ⟨qc, 1, none⟩ = some (.int .i64 a0_1) := bc_ qa 1
   have qn : w3.cell? ⟨qc, 2, none⟩ = some (.bool a0_2) := bc_ qa 2
   have qo := blk_frozen qa.out 0
   have qp := blk_frozen qa.out 1
   have qq := blk_frozen qa.out 2
   go_wp2
   repeat (go_quiet (fail); try go_wp2)
   go_meet
   case rel => exact ⟨_, (true), (by first | rfl | (simp; done) | (simp [*]; done)), H', ⟨by first | omega | exact Nat.le_refl _⟩, ⟨kf_ qa⟩, ⟨bb_ HB⟩⟩
  ·
   rw [if_neg c4] at H
   have qi : decide (4 < (l0_0.length : Int)) = false := decide_eq_false c4
   have qA : decide (4 < l0_0.length) = false := decide_eq_false (by omega)
   clear c4
   (first | rw [qi] | (simp only [i64_w, i32_w]; rw [qi]) | skip)
   replace H := Option.bind_eq_some_iff.mp H
   obtain ⟨qf, A60, H⟩ := H
   replace H : (impl_IsAtom.j0 k (!qf) l0_0 a0_1 a0_2) = some r := H
   have A6 := Aside0.mk A60
   clear A60
   have H' := Aside0.mk H
   clear H
   have qr : w3.cell? ⟨qc, 0, none⟩ = some (.slice A0_0 l0_0.length c0_0) := bc_ qa 0
   have qs : w3.cell? ⟨qc, 1, none⟩ = some (.int .i64 a0_1) := bc_ qa 1
   have qt : w3.cell? ⟨qc, 2, none⟩ = some (.bool a0_2) := bc_ qa 2
   have qu := blk_frozen qa.out 0
   have qv := blk_frozen qa.out 1
   have qw := blk_frozen qa.out 2
   go_wp2_with (first | (go_at_call 61; (with_reducible refine (impl_IsNumber.calls a0_1 qf _ A6.out).mono ?_); rintro e w' ⟨rfl, ⟨nd, rfl⟩⟩; (try first | exact ⟨rfl, _, World.drewN_drewN _ _ _⟩ | exact ⟨rfl, _, Eq.trans (World.drewN_drewN _ _ _) (congrArg (World.drewN _) (Nat.add_assoc _ _ _))⟩)))
   repeat (go_quiet (first | (go_at_call 61; (with_reducible refine (impl_IsNumber.calls a0_1 qf _ A6.out).mono ?_); rintro e w' ⟨rfl, ⟨nd, rfl⟩⟩; (try first | exact ⟨rfl, _, World.drewN_drewN _ _ _⟩ | exact ⟨rfl, _, Eq.trans (World.drewN_drewN _ _ _) (congrArg (World.drewN _) (Nat.add_assoc _ _ _))⟩))); try go_wp2_with (first | (go_at_call 61; (with_reducible refine (impl_IsNumber.calls a0_1 qf _ A6.out).mono ?_); rintro e w' ⟨rfl, ⟨nd, rfl⟩⟩; (try first | exact ⟨rfl, _, World.drewN_drewN _ _ _⟩ | exact ⟨rfl, _, Eq.trans (World.drewN_drewN _ _ _) (congrArg (World.drewN _) (Nat.add_assoc _ _ _))⟩))))
   go_meet
   case rel => exact ⟨_, (!qf), (by first | rfl | (simp; done) | (simp [*]; done)), H', ⟨by first | omega | exact Nat.le_refl _⟩, ⟨kf_ qa⟩, ⟨bb_ HB⟩⟩
 case rest =>
  clear HC2
  try clear p2
  try clear c4
  try clear qi
  try clear qA
  try clear c5
  try clear ql
  try clear qm
  try clear qn
  try clear qr
  try clear qs
  try clear qt
  try clear qo
  try clear qp
  try clear qq
  try clear qu
  try clear qv
  try clear qw
  obtain ⟨kq, qj, rfl, HA, HJ1, qa, HB⟩ := hcut
  cases kq with
  | zero => exact absurd HA.out (by simp [impl_IsAtom.j0])
  | succ kj1 =>
   have H := HA.out
   clear HA
   simp only [impl_IsAtom.j0] at H
   by_cases c8 : qj = true
   ·
    subst c8
    have H1 : (some false) = some r := by rw [if_pos rfl] at H; exact H
    clear H
    have H := H1
    clear H1
    obtain rfl := Option.some.inj H
    go_wp2
    repeat (go_quiet (fail); try go_wp2)
    go_ret
    exact ⟨by first | rfl | (simp [errW_none, errW_some] <;> rfl) | (simp [*, errW_none, errW_some] <;> rfl), bb_ HB⟩
   ·
    replace c8 := Bool.eq_false_iff.mpr c8
    subst c8
    have H1 : (impl_IsAtom.l0 kj1 l0_0 (l0_0.length : Int) 0 l0_0 a0_1 a0_2) = some r := by rw [if_neg (show ¬ (false = true) by decide)] at H; exact H
    clear H
    have H := H1
    clear H1
    have H' := Aside0.mk H
    clear H
    have qB : wc.cell? ⟨qc, 0, none⟩ = some (.slice A0_0 l0_0.length c0_0) := bc_ qa 0
    have qC : wc.cell? ⟨qc, 1, none⟩ = some (.int .i64 a0_1) := bc_ qa 1
    have qD : wc.cell? ⟨qc, 2, none⟩ = some (.bool a0_2) := bc_ qa 2
    have qE := blk_frozen qa.out 0
    have qF := blk_frozen qa.out 1
    have qG := blk_frozen qa.out 2
    go_wp2
    repeat (go_quiet (fail); try go_wp2)
    go_loopg [18] kj1 (fun kq v18 w' => ∃ (qb : Int), v18 = .int .i64 qb ∧ Aside0 (impl_IsAtom.l0 kq l0_0 (l0_0.length : Int) qb l0_0 a0_1 a0_2 = some r) ∧ Aside0 (kq ≤ kj1) ∧ Aside0 (w'.heap[qc]? = some (.cells #[(.slice A0_0 l0_0.length c0_0), .int .i64 a0_1, .bool a0_2] 27 (0, 0))) ∧ Aside0 (Below w.heap.size w w'))
    case atStart => exact ⟨(0), (by first | rfl | (simp; done) | (simp [*]; done)), H', ⟨Nat.le_refl _⟩, ⟨kf_ qa⟩, ⟨bb_ HB⟩⟩
    case round =>
     clear H'
     try clear p2
     try clear c4
     try clear qi
     try clear qA
     try clear c5
     try clear c8
     try clear ql
     try clear qm
     try clear qn
     try clear qr
     try clear qs
     try clear qt
     try clear qB
     try clear qC
     try clear qD
     try clear qo
     try clear qp
     try clear qq
     try clear qu
     try clear qv
     try clear qw
     try clear qE
     try clear qF
     try clear qG
     try clear p2
     obtain ⟨qb, rfl, HA, HK2, qa, HB⟩ := hrel
     cases gk with
     | zero => exact absurd HA.out (by simp [impl_IsAtom.l0])
     | succ k2 =>
      have H := HA.out
      clear HA
      simp only [impl_IsAtom.l0] at H
      by_cases c10 : qb < (l0_0.length : Int)
      ·
       rw [if_pos c10] at H
       have qH : decide (qb < (l0_0.length : Int)) = true := decide_eq_true c10
       clear c10
       by_cases c11 : 0 ≤ qb
       ·
        rw [if_pos c11] at H
        have qP : decide (0 ≤ qb) = true := decide_eq_true c11
        clear c11
        by_cases c12 : qb < (l0_0.length : Int)
        ·
         rw [if_pos c12] at H
         have qQ : decide (qb < (l0_0.length : Int)) = true := decide_eq_true c12
         clear c12
         replace H := Option.bind_eq_some_iff.mp H
         obtain ⟨qx, A130, H⟩ := H
         replace H : (if qx = true then (impl_IsAtom.l0 k2 l0_0 (l0_0.length : Int) (wrap64 (qb + 1)) l0_0 a0_1 a0_2) else (some false)) = some r := H
         have A13 := Aside0.mk A130
         clear A130
         by_cases c14 : qx = true
         ·
          subst c14
          have H1 : (impl_IsAtom.l0 k2 l0_0 (l0_0.length : Int) (wrap64 (qb + 1)) l0_0 a0_1 a0_2) = some r := by rw [if_pos rfl] at H; exact H
          clear H
          have H := H1
          clear H1
          have H' := Aside0.mk H
          clear H
          have p138 : 0 ≤ (qb : Int) := of_decide_eq_true (by first | (with_reducible assumption) | assumption)
          have q138 : qb < (l0_0.length : Int) := of_decide_eq_true (by first | (with_reducible assumption) | assumption)
          obtain ⟨qI, e138, qd⟩ := Kd.at_int qh.out qb p138 q138
          cases e138
          replace qd := (HB.out.cell (World.block_lt_of_cell? w _ qd)).trans qd
          replace p138 := eq_true p138
          replace q138 := eq_true q138
          go_wp2_with (first | (go_at_call 61; (with_reducible refine (impl_IsNumber.calls (rd l0_0 qb) true _ A13.out).mono ?_); rintro e w' ⟨rfl, ⟨nd, rfl⟩⟩; (try first | exact ⟨rfl, _, World.drewN_drewN _ _ _⟩ | exact ⟨rfl, _, Eq.trans (World.drewN_drewN _ _ _) (congrArg (World.drewN _) (Nat.add_assoc _ _ _))⟩)))
          repeat (go_quiet (first | (go_at_call 61; (with_reducible refine (impl_IsNumber.calls (rd l0_0 qb) true _ A13.out).mono ?_); rintro e w' ⟨rfl, ⟨nd, rfl⟩⟩; (try first | exact ⟨rfl, _, World.drewN_drewN _ _ _⟩ | exact ⟨rfl, _, Eq.trans (World.drewN_drewN _ _ _) (congrArg (World.drewN _) (Nat.add_assoc _ _ _))⟩))); try go_wp2_with (first | (go_at_call 61; (with_reducible refine (impl_IsNumber.calls (rd l0_0 qb) true _ A13.out).mono ?_); rintro e w' ⟨rfl, ⟨nd, rfl⟩⟩; (try first | exact ⟨rfl, _, World.drewN_drewN _ _ _⟩ | exact ⟨rfl, _, Eq.trans (World.drewN_drewN _ _ _) (congrArg (World.drewN _) (Nat.add_assoc _ _ _))⟩))))
          go_roundg k2
          case measure => have := HJ1.out; have := HK2.out; omega
          case rel => exact ⟨(wrap64 (qb + 1)), (by first | rfl | (simp; done) | (simp [*]; done)), H', ⟨by have := HJ1.out; have := HK2.out; omega⟩, ⟨kf_ qa⟩, ⟨bb_ HB⟩⟩
         ·
          replace c14 := Bool.eq_false_iff.mpr c14
          subst c14
          have H1 : (some false) = some r := by rw [if_neg (show ¬ (false = true) by decide)] at H; exact H
          clear H
          have H := H1
          clear H1
          obtain rfl := Option.some.inj H
          have p138 : 0 ≤ (qb : Int) := of_decide_eq_true (by first | (with_reducible assumption) | assumption)
          have q138 : qb < (l0_0.length : Int) := of_decide_eq_true (by first | (with_reducible assumption) | assumption)
          obtain ⟨qI, e138, qd⟩ := Kd.at_int qh.out qb p138 q138
          cases e138
          replace qd := (HB.out.cell (World.block_lt_of_cell? w _ qd)).trans qd
          replace p138 := eq_true p138
          replace q138 := eq_true q138
          go_wp2_with (first | (go_at_call 61; (with_reducible refine (impl_IsNumber.calls (rd l0_0 qb) false _ A13.out).mono ?_); rintro e w' ⟨rfl, ⟨nd, rfl⟩⟩; (try first | exact ⟨rfl, _, World.drewN_drewN _ _ _⟩ | exact ⟨rfl, _, Eq.trans (World.drewN_drewN _ _ _) (congrArg (World.drewN _) (Nat.add_assoc _ _ _))⟩)))
          repeat (go_quiet (first | (go_at_call 61; (with_reducible refine (impl_IsNumber.calls (rd l0_0 qb) false _ A13.out).mono ?_); rintro e w' ⟨rfl, ⟨nd, rfl⟩⟩; (try first | exact ⟨rfl, _, World.drewN_drewN _ _ _⟩ | exact ⟨rfl, _, Eq.trans (World.drewN_drewN _ _ _) (congrArg (World.drewN _) (Nat.add_assoc _ _ _))⟩))); try go_wp2_with (first | (go_at_call 61; (with_reducible refine (impl_IsNumber.calls (rd l0_0 qb) false _ A13.out).mono ?_); rintro e w' ⟨rfl, ⟨nd, rfl⟩⟩; (try first | exact ⟨rfl, _, World.drewN_drewN _ _ _⟩ | exact ⟨rfl, _, Eq.trans (World.drewN_drewN _ _ _) (congrArg (World.drewN _) (Nat.add_assoc _ _ _))⟩))))
          go_ret
          exact ⟨by first | rfl | (simp [errW_none, errW_some] <;> rfl) | (simp [*, errW_none, errW_some] <;> rfl), bb_ HB⟩
        ·
         rw [if_neg c12] at H
         exact absurd H (by simp)
       ·
        rw [if_neg c11] at H
        exact absurd H (by simp)
      ·
       rw [if_neg c10] at H
       have qH : decide (qb < (l0_0.length : Int)) = false := decide_eq_false c10
       clear c10
       replace H := Option.bind_eq_some_iff.mp H
       obtain ⟨qe, A150, H⟩ := H
       replace H : ((impl_commonDivisor.f k2 qe a0_1).bind fun qg => (some (decide (qg ≤ 1)))) = some r := H
       have A15 := Aside0.mk A150
       clear A150
       replace H := Option.bind_eq_some_iff.mp H
       obtain ⟨qg, A160, H⟩ := H
       replace H : (some (decide (qg ≤ 1))) = some r := H
       have A16 := Aside0.mk A160
       clear A160
       obtain rfl := Option.some.inj H
       have qJ : wr.cell? ⟨qc, 0, none⟩ = some (.slice A0_0 l0_0.length c0_0) := bc_ qa 0
       have qK : wr.cell? ⟨qc, 1, none⟩ = some (.int .i64 a0_1) := bc_ qa 1
       have qL : wr.cell? ⟨qc, 2, none⟩ = some (.bool a0_2) := bc_ qa 2
       have qM := blk_frozen qa.out 0
       have qN := blk_frozen qa.out 1
       have qO := blk_frozen qa.out 2
       go_wp2_with (first | (go_at_call 93; (with_reducible refine (impl_divisorOf.calls k2 _ _ l0_0 qe _ ?side1 ?side2 A15.out).mono ?_); (case side1 => exact cb_ qh HB); (case side2 => exact qk.out); rintro e w' ⟨rfl, ⟨nd, rfl⟩⟩; (try first | exact ⟨rfl, _, World.drewN_drewN _ _ _⟩ | exact ⟨rfl, _, Eq.trans (World.drewN_drewN _ _ _) (congrArg (World.drewN _) (Nat.add_assoc _ _ _))⟩)) | (go_at_call 92; (with_reducible refine (impl_commonDivisor.calls k2 qe a0_1 qg _ A16.out).mono ?_); rintro e w' ⟨rfl, ⟨nd, rfl⟩⟩; (try first | exact ⟨rfl, _, World.drewN_drewN _ _ _⟩ | exact ⟨rfl, _, Eq.trans (World.drewN_drewN _ _ _) (congrArg (World.drewN _) (Nat.add_assoc _ _ _))⟩)))
       repeat (go_quiet (first | (go_at_call 93; (with_reducible refine (impl_divisorOf.calls k2 _ _ l0_0 qe _ ?side1 ?side2 A15.out).mono ?_); (case side1 => exact cb_ qh HB); (case side2 => exact qk.out); rintro e w' ⟨rfl, ⟨nd, rfl⟩⟩; (try first | exact ⟨rfl, _, World.drewN_drewN _ _ _⟩ | exact ⟨rfl, _, Eq.trans (World.drewN_drewN _ _ _) (congrArg (World.drewN _) (Nat.add_assoc _ _ _))⟩)) | (go_at_call 92; (with_reducible refine (impl_commonDivisor.calls k2 qe a0_1 qg _ A16.out).mono ?_); rintro e w' ⟨rfl, ⟨nd, rfl⟩⟩; (try first | exact ⟨rfl, _, World.drewN_drewN _ _ _⟩ | exact ⟨rfl, _, Eq.trans (World.drewN_drewN _ _ _) (congrArg (World.drewN _) (Nat.add_assoc _ _ _))⟩))); try go_wp2_with (first | (go_at_call 93; (with_reducible refine (impl_divisorOf.calls k2 _ _ l0_0 qe _ ?side1 ?side2 A15.out).mono ?_); (case side1 => exact cb_ qh HB); (case side2 => exact qk.out); rintro e w' ⟨rfl, ⟨nd, rfl⟩⟩; (try first | exact ⟨rfl, _, World.drewN_drewN _ _ _⟩ | exact ⟨rfl, _, Eq.trans (World.drewN_drewN _ _ _) (congrArg (World.drewN _) (Nat.add_assoc _ _ _))⟩)) | (go_at_call 92; (with_reducible refine (impl_commonDivisor.calls k2 qe a0_1 qg _ A16.out).mono ?_); rintro e w' ⟨rfl, ⟨nd, rfl⟩⟩; (try first | exact ⟨rfl, _, World.drewN_drewN _ _ _⟩ | exact ⟨rfl, _, Eq.trans (World.drewN_drewN _ _ _) (congrArg (World.drewN _) (Nat.add_assoc _ _ _))⟩))))
       go_ret
       exact ⟨by first | rfl | (simp [errW_none, errW_some] <;> rfl) | (simp [*, errW_none, errW_some] <;> rfl), bb_ HB⟩

-- NOT PRINTED: function 53 (strings_Builder_Len)

-- NOT PRINTED: function 111 (abi_NoEscape)

-- NOT PRINTED: function 94 (strings_Builder_copyCheck)

-- NOT PRINTED: function 54 (strings_Builder_WriteByte)

-- NOT PRINTED: function 55 (strings_Builder_WriteString)

/-! ### strconv_Itoa: function 95 -/
def ErrW (w : World) (n : String) : Prop := ∃ tp p, w.var? Tryd.prog n = some #[.iface tp p]
theorem errW_ {w W : World} {n : String} (h : ErrW w n) (hb : Below w.heap.size w W) : ErrW W n := by
 obtain ⟨tp, p, h⟩ := h
 refine ⟨tp, p, ?_⟩
 unfold World.var? at *
 cases hg : Tryd.prog.globalNamed n with
 | none => simp [hg] at h
 | some g =>
  simp only [hg, Option.bind_some] at h ⊢
  have hlt : g < w.heap.size := by
   rcases Nat.lt_or_ge g w.heap.size with h' | h'
   ·
    exact h'
   ·
    rw [Array.getElem?_eq_none h'] at h; simp at h
  rw [hb.block g hlt]
  exact h
class LaidW (w : World) : Prop where
 out : Lib.TabIs Tryd.prog w "internal/strconv.uint64pow10" .u64 Lib.pow10Tab
 syn : ErrW w "strconv.ErrSyntax"
 rng : ErrW w "strconv.ErrRange"
def strconv_Itoa.f (a0 : Int) : Option (ByteArray) := if -9223372036854775808 ≤ a0 ∧ a0 ≤ 9223372036854775807 then some ⟨(Lib.itoa a0).toArray⟩ else none
theorem strconv_Itoa.calls (a0 : Int) (r : ByteArray) (w : World) (hL : LaidW w) (h : strconv_Itoa.f a0 = some r) :
  Calls Tryd.prog 95 #[.int .i64 a0] w fun e w' => e = .returned (.string r) ∧ Below w.heap.size w w' := by
 unfold strconv_Itoa.f at h
 split at h
 ·
  rename_i hb
  obtain rfl := Option.some.inj h
  refine (Tryd.strconv_Itoa a0 hb.1 hb.2 w hL.out).mono ?_
  rintro e w' ⟨rfl, k, os, rfl⟩
  exact ⟨rfl, Lib.below_grow _ _ (Nat.le_refl _) k os⟩
 ·
  exact absurd h (by simp)

theorem laid_ {w W W2 : World} (hL : Aside0 (LaidW w)) (h : Aside0 (Below w.heap.size w W)) [k : Lts w W W2] : LaidW W2 := ⟨Lib.tabBelow_of_tabIs hL.out.out W2 (bb_ h), errW_ hL.out.syn (bb_ h), errW_ hL.out.rng (bb_ h)⟩

/-! ### impl_FormatInt: function 56 -/
def impl_FormatInt.f (a0 : Int) : Option (ByteArray) := (strconv_Itoa.f a0).bind fun qa => (some qa)
set_option maxHeartbeats 8000000 in
set_option maxRecDepth 100000 in
theorem impl_FormatInt.calls (a0 : Int) (r : ByteArray) (w : World) (hL : LaidW w) (h : impl_FormatInt.f a0 = some r) :
  Calls Tryd.prog 56 #[.int .i64 a0] w fun e w' => e = .returned (.string r) ∧ Below w.heap.size w w' := by
 have HL_ := Aside0.mk hL
 clear hL
 have HB := Aside0.mk (Below.refl w.heap.size w)
 have H : ((strconv_Itoa.f a0).bind fun qa => (some qa)) = some r := h
 clear h
 replace H := Option.bind_eq_some_iff.mp H
 obtain ⟨qa, A20, H⟩ := H
 replace H : (some qa) = some r := H
 have A2 := Aside0.mk A20
 clear A20
 obtain rfl := Option.some.inj H
 go_enter Tryd.func56, Tryd.ntmps56
 go_wp2_with (first | ((with_reducible refine gate_callee (f := 95) rfl ?_); refine goesL_ (some 4) rfl rfl Tryd.func95 (by kernel_rfl) rfl #[.int .i64 a0] rfl (by (try simp only [List.map_toArray, List.map_cons, List.map_nil]); first | done | rfl | (simp only [List.length_drop, List.length_take]; rfl)) ?_; (with_reducible refine (strconv_Itoa.calls (hL := laid_ HL_ HB) a0 qa _ A2.out).mono ?_); rintro e w3 ⟨rfl, hb⟩; refine ⟨_, rfl, ?_⟩; replace HB := bS_ HB hb; (try clear hb); (try clear hb2); (try clear hk); (try clear hi)))
 go_ret
 exact ⟨by first | rfl | (simp [errW_none, errW_some] <;> rfl) | (simp [*, errW_none, errW_some] <;> rfl), bb_ HB⟩

-- NOT PRINTED: function 57 (strings_Builder_String)

/-! ### impl_FormatAtom: function 14 -/
set_option maxHeartbeats 4000000 in
set_option maxRecDepth 100000 in
theorem Bld.used (b : Nat) (w : World) (h0 : w.cell? ⟨b, 0, none⟩ = some (.pointer (some ⟨b, 0, none⟩))) :
  Calls Tryd.prog 94 #[.pointer (some ⟨b, 0, none⟩)] w fun e w' => e = .returned (.tuple #[]) ∧ w' = w := by
 obtain ⟨j, hj, _⟩ := Option.map_eq_some_iff.1 (show (Tryd.prog.info? 87).map (·.size) = some 2 by kernel_rfl)
 have u1 := run_underlying Tryd.underlying85
 have u2 := run_underlying Tryd.underlying87
 go_enter Tryd.func94, Tryd.ntmps94
 go_wp2
 rw [Lib.run_neq_ptr_same w _ Tryd.underlying85 hj]
 go_wp2
 go_end0
 exact ⟨rfl, rfl⟩
set_option maxHeartbeats 4000000 in
set_option maxRecDepth 100000 in
theorem Bld.fresh (b : Nat) (w : World) (h0 : w.cell? ⟨b, 0, none⟩ = some (.pointer none)) (hsh : w.shape? b = some (87, 2)) (hfz : w.frozen? ⟨b, 0, none⟩ = false) :
  Calls Tryd.prog 94 #[.pointer (some ⟨b, 0, none⟩)] w fun e w' => e = .returned (.tuple #[]) ∧ w' = w.setCell ⟨b, 0, none⟩ (.pointer (some ⟨b, 0, none⟩)) := by
 obtain ⟨j, hj, hjs⟩ := Option.map_eq_some_iff.1 (show (Tryd.prog.info? 87).map (·.size) = some 2 by kernel_rfl)
 have u1 := run_underlying Tryd.underlying85
 have u2 := run_underlying Tryd.underlying87
 have u3 := run_underlying Tryd.underlying129
 go_enter Tryd.func94, Tryd.ntmps94
 go_wp2
 rw [Lib.run_to_unsafe w ⟨b, 0, none⟩ Tryd.underlying85 Tryd.underlying129 hj (by rw [hjs]; decide) hsh (Nat.zero_lt_succ 1)]
 simp only [Result.andThen]
 rw [Oper.upon_value]
 go_wp2
 rw [run_callFunc_extern Tryd.func111 (by kernel_rfl) (by kernel_rfl) (by kernel_rfl) (e := Extern.AbiNoEscape.same) (by kernel_rfl)]
 rw [Lib.run_noEscape]
 simp only [Result.andThen]
 rw [Oper.upon_value]
 go_wp2
 rw [Lib.run_from_unsafe w ⟨b, 0, none⟩ Tryd.underlying129 Tryd.underlying85 hj hsh (by kernel_rfl)]
 simp only [Result.andThen]
 rw [Oper.upon_value]
 go_wp2
 go_end0
 exact ⟨rfl, rfl⟩
set_option maxHeartbeats 4000000 in
set_option maxRecDepth 100000 in
theorem Bld.check (B b : Nat) (bs : List Value) (w : World) (h : Lib.IsBuilder 87 5 B b bs w) :
  Calls Tryd.prog 94 #[.pointer (some ⟨b, 0, none⟩)] w fun e w' => e = .returned (.tuple #[]) ∧ (Lib.BuilderAt 87 5 B b (.pointer (some ⟨b, 0, none⟩)) bs w' ∧ Below B w w') := by
 cases h with
 | inl h =>
  refine (Bld.fresh b w h.cell0 h.shape h.frozen0).mono ?_
  rintro e w' ⟨rfl, rfl⟩
  exact ⟨rfl, h.used _, (Below.refl B w).setCell (p := ⟨b, 0, none⟩) h.1 _⟩
 | inr h =>
  refine (Bld.used b w h.cell0).mono ?_
  rintro e w' ⟨rfl, rfl⟩
  exact ⟨rfl, h, Below.refl B _⟩
set_option maxHeartbeats 4000000 in
set_option maxRecDepth 100000 in
theorem Bld.here {B b : Nat} {p v : Value} {w : World} (h : w.heap[b]? = some (.cells #[p, v] 87 (0, 0))) : b < w.heap.size := (Array.getElem?_eq_some_iff.1 h).1
set_option maxHeartbeats 4000000 in
set_option maxRecDepth 100000 in
theorem Bld.writeByte (B b : Nat) (bs : List Value) (c : Int) (w : World) (h : Lib.IsBuilder 87 5 B b bs w) (hlen : bs.length + 1 ≤ 140737488355328) (hBw : B ≤ w.heap.size) :
  Calls Tryd.prog 54 #[.pointer (some ⟨b, 0, none⟩), .int .u8 c] w fun e w' => e = .returned .nilIface ∧ (Lib.IsBuilder 87 5 B b (bs ++ [.int .u8 c]) w' ∧ Below B w w') := by
 obtain ⟨i0, hi, hz0, hz1, hz2⟩ := info_parts (show (Tryd.prog.info? 5).map (fun i => (i.zero, i.size, i.bytes)) = some (some (.int .u8 0), 1, 1) by kernel_rfl)
 have u1 := run_underlying Tryd.underlying85
 have u2 := run_underlying Tryd.underlying87
 have u3 := run_underlying Tryd.underlying61
 go_enter Tryd.func54, Tryd.ntmps54
 go_wp2_with (go_at_call 94; refine (Bld.check B b bs _ h).mono ?_)
 rintro e w1 ⟨rfl, ⟨hB, v, hbk, hown, hne⟩, hb1⟩
 have hs1 := hb1.size
 have c0 : w1.cell? ⟨b, 0, none⟩ = some (.pointer (some ⟨b, 0, none⟩)) := by rw [Lib.cell_of_heap hbk]; rfl
 have c1 : w1.cell? ⟨b, 1, none⟩ = some v := by rw [Lib.cell_of_heap hbk]; rfl
 go_wp2_with (at_builtin; refine wpList_append_own _ rfl _ _ 61 rfl B 5 i0 (.int .u8 0) 1 1 Tryd.underlying61 hi hz0 hz1 hz2 rfl (by decide) _ _ _ rfl (hown.alloc _) ⟨w1.heap.size, 0, none⟩ 1 1 [.int .u8 c] rfl rfl ?c1 ?c2 ?c3 ?c4 ?c5 ?_)
 case c1 =>
  intro j u hj
  match j, hj with
  | 0, hj => simp at hj; subst hj; simp [Addr.add]
 case c2 => intro u hu; simp at hu; subst hu; rfl
 case c3 => unfold maxLen; omega
 case c4 => omega
 case c5 => simp; omega
 intro v' w2 hown' hgrow _
 have hlt : b < w1.heap.size := Bld.here (B := B) hbk
 have hb2 : w2.heap[b]? = some (.cells #[.pointer (some ⟨b, 0, none⟩), v] 87 (0, 0)) := by
  rw [hgrow.block b (by simp; omega) (fun e => hne e.symm), Lib.alloc_old w1 _ b hlt]
  exact hbk
 have d0 : w2.cell? ⟨b, 0, none⟩ = some (.pointer (some ⟨b, 0, none⟩)) := by rw [Lib.cell_of_heap hb2]; rfl
 have d1 : w2.cell? ⟨b, 1, none⟩ = some v := by rw [Lib.cell_of_heap hb2]; rfl
 have f1 : w2.frozen? ⟨b, 1, none⟩ = false := Lib.frozen_of_heap hb2 1
 obtain ⟨g, cap, rfl⟩ : ∃ g cap, v' = .slice (some ⟨g, 0, none⟩) (bs.length + 1) cap := by
  rcases hown'.2 with ⟨_, h0⟩ | ⟨g, cap, cur, hv, _⟩
  ·
   omega
  ·
   exact ⟨g, cap, hv⟩
 go_wp2
 go_ret
 refine ⟨rfl, .inr ?_, ?_⟩
 ·
  exact Lib.BuilderAt.put (T := 87) (e := 5) hB hb2 (bs' := bs ++ [.int .u8 c]) (by simpa using hown') (by decide)
 ·
  exact ((hb1.alloc (by omega) _).grown hgrow (by simp; omega) (fun k hk => (hown.lt k hk).1)).setCell (p := ⟨b, 1, none⟩) hB _
set_option maxHeartbeats 4000000 in
set_option maxRecDepth 100000 in
theorem Bld.writeString (B b : Nat) (bs : List Value) (s : ByteArray) (w : World) (h : Lib.IsBuilder 87 5 B b bs w) (hlen : bs.length + s.size ≤ 140737488355328) (hBw : B ≤ w.heap.size) :
  Calls Tryd.prog 55 #[.pointer (some ⟨b, 0, none⟩), .string s] w fun e w' => e = .returned (.tuple #[.int .i64 s.size, .nilIface]) ∧ (Lib.IsBuilder 87 5 B b (bs ++ Lib.strCells s) w' ∧ Below B w w') := by
 obtain ⟨i0, hi, hz0, hz1, hz2⟩ := info_parts (show (Tryd.prog.info? 5).map (fun i => (i.zero, i.size, i.bytes)) = some (some (.int .u8 0), 1, 1) by kernel_rfl)
 have u1 := run_underlying Tryd.underlying85
 have u2 := run_underlying Tryd.underlying87
 have u3 := run_underlying Tryd.underlying61
 go_enter Tryd.func55, Tryd.ntmps55
 go_wp2_with (go_at_call 94; refine (Bld.check B b bs _ h).mono ?_)
 rintro e w1 ⟨rfl, ⟨hB, v, hbk, hown, hne⟩, hb1⟩
 have hs1 := hb1.size
 have c0 : w1.cell? ⟨b, 0, none⟩ = some (.pointer (some ⟨b, 0, none⟩)) := by rw [Lib.cell_of_heap hbk]; rfl
 have c1 : w1.cell? ⟨b, 1, none⟩ = some v := by rw [Lib.cell_of_heap hbk]; rfl
 go_wp2_with (at_builtin; refine Lib.wpList_append_own_string _ rfl _ _ 61 9 rfl B 5 i0 Tryd.underlying61 Tryd.underlying9 hi hz0 hz1 hz2 _ _ _ rfl hown s rfl ?c3 ?c4 ?c5 ?_)
 case c3 => unfold maxLen; omega
 case c4 => omega
 case c5 => omega
 intro v' w2 hown' hgrow _
 have hlt : b < w1.heap.size := Bld.here (B := B) hbk
 have hb2 : w2.heap[b]? = some (.cells #[.pointer (some ⟨b, 0, none⟩), v] 87 (0, 0)) := by
  rw [hgrow.block b hlt (fun e => hne e.symm)]
  exact hbk
 have d0 : w2.cell? ⟨b, 0, none⟩ = some (.pointer (some ⟨b, 0, none⟩)) := by rw [Lib.cell_of_heap hb2]; rfl
 have d1 : w2.cell? ⟨b, 1, none⟩ = some v := by rw [Lib.cell_of_heap hb2]; rfl
 have f1 : w2.frozen? ⟨b, 1, none⟩ = false := Lib.frozen_of_heap hb2 1
 obtain ⟨ao, n', cap, rfl⟩ : ∃ ao n' cap, v' = .slice ao n' cap := by
  rcases hown'.2 with ⟨hv, _⟩ | ⟨g, cap, cur, hv, _⟩
  ·
   exact ⟨_, _, _, hv⟩
  ·
   exact ⟨_, _, _, hv⟩
 go_wp2
 go_ret2
 refine ⟨rfl, .inr ?_, ?_⟩
 ·
  exact Lib.BuilderAt.put (T := 87) (e := 5) hB hb2 (bs' := bs ++ Lib.strCells s) (by simpa [Lib.strCells_length] using hown') (by decide)
 ·
  exact (hb1.grown hgrow (by omega) (fun k hk => (hown.lt k hk).1)).setCell (p := ⟨b, 1, none⟩) hB _
/-- The builder in block b (one of the blocks from B on) holds these bytes. -/
def Bl (B b : Nat) (acc : List UInt8) (w : World) : Prop := Lib.IsBuilder 87 5 B b (Lib.byteCells acc) w
theorem Bl.below {B b : Nat} {acc : List UInt8} {W W' : World} (h : Bl B b acc W) (hb : Below W.heap.size W W') : Bl B b acc W' := by
 have k : ∀ p, Lib.BuilderAt 87 5 B b p (Lib.byteCells acc) W → Lib.BuilderAt 87 5 B b p (Lib.byteCells acc) W' := by
  intro p h
  have hlt := h.lt
  obtain ⟨hB, v, hv, hown, hne⟩ := h
  exact ⟨hB, v, (hb.block b hlt).trans hv, hown.kept (row := none) ⟨hb.os, hb.tape, hb.output, hb.size, fun k hk _ => hb.block k hk⟩ (Classical.em _), hne⟩
 exact Or.imp (k _) (k _) h
theorem Bl.new (w : World) : Bl w.heap.size w.heap.size [] (w.alloc (.cells #[.pointer none, .slice none 0 0] 87)) := Lib.fresh_isBuilder _ _ w
theorem Bl.len {B b : Nat} {acc : List UInt8} {w : World} (h : Bl B b acc w) :
  Calls Tryd.prog 53 #[.pointer (some ⟨b, 0, none⟩)] w fun e w' => e = .returned (.int .i64 (acc.length : Int)) ∧ w' = w := by
 have := Tryd.Builder_Len B b _ w h
 rwa [Lib.byteCells_length] at this
theorem Bl.byte {B b : Nat} {acc : List UInt8} {w : World} (c : UInt8) (h : Bl B b acc w) (hl : acc.length ≤ 1000000) (hB : B ≤ w.heap.size) :
  Calls Tryd.prog 54 #[.pointer (some ⟨b, 0, none⟩), .int .u8 (c.toNat : Int)] w fun e w' => e = .returned .nilIface ∧ Bl B b (acc ++ [c]) w' ∧ Below B w w' := by
 refine (Bld.writeByte B b _ (c.toNat : Int) w h (by rw [Lib.byteCells_length]; omega) hB).mono ?_
 rintro e w' ⟨rfl, h1, h2⟩
 refine ⟨rfl, ?_, h2⟩
 unfold Bl
 rw [Lib.byteCells_append]
 exact h1
theorem Bl.byteI {B b : Nat} {acc : List UInt8} {w : World} (x : Int) (c : UInt8) (hx : (c.toNat : Int) = x) (h : Bl B b acc w) (hl : acc.length ≤ 1000000) (hB : B ≤ w.heap.size) :
  Calls Tryd.prog 54 #[.pointer (some ⟨b, 0, none⟩), .int .u8 x] w fun e w' => e = .returned .nilIface ∧ Bl B b (acc ++ [c]) w' ∧ Below B w w' := by
 subst hx
 exact Bl.byte c h hl hB
theorem Bl.str {B b : Nat} {acc : List UInt8} {w : World} (s : ByteArray) (h : Bl B b acc w) (hl : acc.length ≤ 1000000) (hs : s.size ≤ 1000000) (hB : B ≤ w.heap.size) :
  Calls Tryd.prog 55 #[.pointer (some ⟨b, 0, none⟩), .string s] w fun e w' => e = .returned (.tuple #[.int .i64 s.size, .nilIface]) ∧ Bl B b (acc ++ s.data.toList) w' ∧ Below B w w' := by
 refine (Bld.writeString B b _ s w h (by rw [Lib.byteCells_length]; omega) hB).mono ?_
 rintro e w' ⟨rfl, h1, h2⟩
 refine ⟨rfl, ?_, h2⟩
 unfold Bl
 rw [Lib.byteCells_append]
 exact h1
theorem Bl.out {B b : Nat} {acc : List UInt8} {w : World} (h : Bl B b acc w) (hB : B ≤ w.heap.size) :
  Calls Tryd.prog 57 #[.pointer (some ⟨b, 0, none⟩)] w fun e w' => e = .returned (.string ⟨acc.toArray⟩) ∧ Below B w w' := by
 refine (Tryd.Builder_String_any B b acc w h hB).mono ?_
 rintro e w' h
 exact h

def FA.nm (i : Nat) : UInt8 := if i = 0 then 120 else if i = 1 then 121 else if i = 2 then 122 else 116
def FA.plus (acc : List UInt8) (n : Int) : List UInt8 := if 0 < n ∧ 0 < acc.length then acc ++ [43] else acc
def FA.tail (acc : List UInt8) (s : Bool) : Option ByteArray := if acc.length ≤ 900000 then some ⟨(acc ++ (if s then [60, 48] else [60, 61, 48])).toArray⟩ else none
def FA.fin (acc : List UInt8) (c : Int) (s : Bool) : Option ByteArray := if c = 0 ∧ 0 < acc.length then FA.tail acc s else (impl_FormatInt.f c).bind fun t => if acc.length ≤ 800000 ∧ t.size ≤ 100 then FA.tail (FA.plus acc c ++ t.data.toList) s else none
def FA.step (acc : List UInt8) (i : Nat) (n : Int) : Option (List UInt8) := if n = 0 then some acc else if acc.length ≤ 700000 then (if n = 1 then some (FA.plus acc n ++ [FA.nm i]) else if n = -1 then some (FA.plus acc n ++ [45] ++ [FA.nm i]) else (impl_FormatInt.f n).bind fun t => if t.size ≤ 100 then some (FA.plus acc n ++ t.data.toList ++ [FA.nm i]) else none) else none
def FA.go : List Int → Nat → List UInt8 → Option (List UInt8)
 | [], _, acc => some acc
 | n :: ns, i, acc => (FA.step acc i n).bind fun a => FA.go ns (i + 1) a
def impl_FormatAtom.f (k : Nat) (l0_0 : List Int) (a0_1 : Int) (a0_2 : Bool) : Option (ByteArray) := (impl_IsAtom.f k l0_0 a0_1 a0_2).bind fun t => if t = true then (if l0_0.length ≤ 4 then (FA.go l0_0 0 []).bind fun acc => FA.fin acc a0_1 a0_2 else none) else some ⟨#[]⟩
theorem impl_FormatAtom.mono : ∀ l0_0 a0_1 a0_2 k, LeO (impl_FormatAtom.f k l0_0 a0_1 a0_2) (impl_FormatAtom.f (k + 1) l0_0 a0_1 a0_2) := fun l c s k => LeO.bind (impl_IsAtom.mono l c s k) (fun _ => LeO.refl _)
theorem FA.nm_get : ∀ (i : Nat) (h : i < 4), (⟨#[120, 121, 122, 116]⟩ : ByteArray)[i]'h = FA.nm i
 | 0, _ => rfl | 1, _ => rfl | 2, _ => rfl | 3, _ => rfl
 | n + 4, h => by omega
theorem FA.plus_len (acc : List UInt8) (n : Int) : (FA.plus acc n).length ≤ acc.length + 1 := by unfold FA.plus; split <;> simp
theorem FA.cell {W : World} {g : Nat} {A : Option Addr} {n c : Nat} {x : Int} {s : Bool} (h : W.heap[g]? = some (.cells #[.slice A n c, .int .i64 x, .bool s] 27 (0, 0))) :
  W.cell? ⟨g, 0, none⟩ = some (.slice A n c) ∧ W.cell? ⟨g, 1, none⟩ = some (.int .i64 x) ∧ W.cell? ⟨g, 2, none⟩ = some (.bool s) := by
 refine ⟨?_, ?_, ?_⟩ <;> (rw [Lib.cell_of_heap h]; rfl)
/-- What is carried: the box of the parameter, the builder, the frame. -/
structure FA.St (w : World) (g B : Nat) (A : Option Addr) (n c0 : Nat) (x : Int) (s : Bool) (acc : List UInt8) (W : World) : Prop where
 gB : g < B
 wg : w.heap.size ≤ g
 box : W.heap[g]? = some (.cells #[.slice A n c0, .int .i64 x, .bool s] 27 (0, 0))
 bl : Bl B B acc W
 lt : B < W.heap.size
 bw : Below w.heap.size w W
theorem FA.St.on {w : World} {g B : Nat} {A : Option Addr} {n c0 : Nat} {x : Int} {s : Bool} {acc acc' : List UInt8} {W W' : World} (h : FA.St w g B A n c0 x s acc W) (hb : Bl B B acc' W') (hw : Below B W W') : FA.St w g B A n c0 x s acc' W' :=
 ⟨h.gB, h.wg, (hw.block _ h.gB).trans h.box, hb, Nat.lt_of_lt_of_le h.lt hw.size, h.bw.trans (hw.mono (Nat.le_trans h.wg (Nat.le_of_lt h.gB)))⟩
theorem FA.St.grown {w : World} {g B : Nat} {A : Option Addr} {n c0 : Nat} {x : Int} {s : Bool} {acc : List UInt8} {W W' : World} (h : FA.St w g B A n c0 x s acc W) (hw : Below W.heap.size W W') : FA.St w g B A n c0 x s acc W' :=
 h.on (h.bl.below hw) (hw.mono (Nat.le_of_lt h.lt))
set_option maxHeartbeats 8000000 in
set_option maxRecDepth 100000 in
theorem impl_FormatAtom.calls (k : Nat) (A0_0 : Option Addr) (c0_0 : Nat) (l0_0 : List Int) (a0_1 : Int) (a0_2 : Bool) (r : ByteArray) (w : World) (hL : LaidW w) (hr0_0 : Kd.C (Kd.int .i64) w A0_0 l0_0.length l0_0) (hc0_0 : l0_0.length ≤ c0_0) (h : impl_FormatAtom.f k l0_0 a0_1 a0_2 = some r) :
  Calls Tryd.prog 14 #[.agg #[.slice A0_0 l0_0.length c0_0, .int .i64 a0_1, .bool a0_2]] w fun e w' => e = .returned (.string r) ∧ Below w.heap.size w w' := by
 have HL_ := Aside0.mk hL
 have HR0 := Aside0.mk hr0_0
 have HC0 := Aside0.mk hc0_0
 clear hL hr0_0 hc0_0
 have hu27 := Tryd.underlying27
 unfold impl_FormatAtom.f at h
 obtain ⟨t, hA, h⟩ := Option.bind_eq_some_iff.mp h
 have HA := Aside0.mk hA
 have H := Aside0.mk h
 clear hA h
 cases t with
 | false =>
  obtain rfl := Option.some.inj H.out
  go_enter Tryd.func14, Tryd.ntmps14
  go_wp2_with (first | ((with_reducible refine gate_dst (N := 1) rfl ?_); refine box_event ?hg (N := 1) ?hd (cs := #[.slice A0_0 l0_0.length c0_0, .int .i64 a0_1, .bool a0_2]) (t := 27) ?hr ?_; (case hd => rfl); (case hg => rfl); (case hr => first | (go_simp; done) | (go_simp; rfl)); intro g hg w1 hbox hb; have HX := Aside0.mk hbox; have HG := Aside0.mk hg; have HB := Aside0.mk hb; obtain ⟨e0, e1, e2⟩ := FA.cell hbox; clear hbox hg hb) | (go_at_call 52; refine (impl_IsAtom.calls k A0_0 c0_0 l0_0 a0_1 a0_2 _ _ (Kd.C_below HR0.out HB.out) HC0.out HA.out).mono ?_; rintro e w2 ⟨rfl, hb2⟩; replace HX := Aside0.mk (blk_below HX.out hb2); replace HB := Aside0.mk (below_step HB.out hb2); clear hb2 e0 e1 e2; have hgw := (Array.getElem?_eq_some_iff.1 HX.out).1; have e0 := fun o => (FA.cell ((Lib.alloc_old w2 o g hgw).trans HX.out)).1))
  go_ret
  exact ⟨rfl, HB.out⟩
 | true =>
  have H1 := H.out
  clear H
  rw [if_pos rfl] at H1
  by_cases h4 : l0_0.length ≤ 4
  ·
   rw [if_pos h4] at H1
   obtain ⟨fa, hgo, hfin⟩ := Option.bind_eq_some_iff.mp H1
   have HGO := Aside0.mk hgo
   have HFIN := Aside0.mk hfin
   have H4 := Aside0.mk h4
   clear H1 hgo hfin h4
   go_enter Tryd.func14, Tryd.ntmps14
   go_wp2_with (first | ((with_reducible refine gate_dst (N := 1) rfl ?_); refine box_event ?hg (N := 1) ?hd (cs := #[.slice A0_0 l0_0.length c0_0, .int .i64 a0_1, .bool a0_2]) (t := 27) ?hr ?_; (case hd => rfl); (case hg => rfl); (case hr => first | (go_simp; done) | (go_simp; rfl)); intro g hg w1 hbox hb; have HX := Aside0.mk hbox; have HG := Aside0.mk hg; have HB := Aside0.mk hb; obtain ⟨e0, e1, e2⟩ := FA.cell hbox; clear hbox hg hb) | (go_at_call 52; refine (impl_IsAtom.calls k A0_0 c0_0 l0_0 a0_1 a0_2 _ _ (Kd.C_below HR0.out HB.out) HC0.out HA.out).mono ?_; rintro e w2 ⟨rfl, hb2⟩; replace HX := Aside0.mk (blk_below HX.out hb2); replace HB := Aside0.mk (below_step HB.out hb2); clear hb2 e0 e1 e2; have hgw := (Array.getElem?_eq_some_iff.1 HX.out).1; have e0 := fun o => (FA.cell ((Lib.alloc_old w2 o g hgw).trans HX.out)).1))
   have HS : FA.St w g w2.heap.size A0_0 l0_0.length c0_0 a0_1 a0_2 [] (w2.alloc (.cells #[.pointer none, .slice none 0 0] 87)) := ⟨hgw, by rw [HG.out]; exact Nat.le_refl _, (Lib.alloc_old w2 _ g hgw).trans HX.out, Bl.new w2, by simp, below_alloc HB.out _⟩
   clear e0 hgw HX HG HB
   generalize w2.heap.size = B at HS ⊢
   generalize w2.alloc (.cells #[.pointer none, .slice none 0 0] 87) = W at HS ⊢
   obtain ⟨K, hK⟩ : ∃ K, K = l0_0.length + 1 := ⟨_, rfl⟩
   have HK0 := Aside0.mk hK
   clear hK
   go_loopg [12] K (fun kq v12 wc => ∃ (acc : List UInt8) (i : Nat), v12 = .int .i64 (i : Int) ∧ Aside0 (FA.go (l0_0.drop i) i acc = some fa) ∧ Aside0 (i + kq = l0_0.length + 1) ∧ Aside0 (i ≤ l0_0.length) ∧ FA.St w g B A0_0 l0_0.length c0_0 a0_1 a0_2 acc wc)
   case atStart => exact ⟨[], 0, rfl, by rw [List.drop_zero]; exact HGO, ⟨by have := HK0.out; omega⟩, ⟨Nat.zero_le _⟩, HS⟩
   case round =>
    clear HS HGO
    obtain ⟨acc, i, rfl, HGO, HK1, HI, HS⟩ := hrel
    cases gk with
    | zero => have := HK1.out; have := HI.out; omega
    | succ k1 =>
    obtain ⟨e0, e1, e2⟩ := FA.cell HS.box
    by_cases hi : i < l0_0.length
    ·
     have hlt : decide ((i : Int) < (l0_0.length : Int)) = true := by simpa using hi
     obtain ⟨qf, e242, qd⟩ := Kd.at_int (Kd.C_below HR0.out HS.bw) (i : Int) (by omega) (by omega)
     cases e242
     rw [Int.toNat_natCast] at qd
     have hq := List.drop_eq_getElem_cons hi
     have hrd : rd l0_0 (i : Int) = l0_0[i] := by simp [rd, List.getD_eq_getElem?_getD, hi]
     have HG1 := HGO.out
     rw [hq, FA.go, ← hrd] at HG1
     clear hq HGO
     generalize rd l0_0 (i : Int) = n at qd HG1 hrd
     clear hrd
     obtain ⟨a1, hst, hgo⟩ := Option.bind_eq_some_iff.mp HG1
     have HGO := Aside0.mk hgo
     clear HG1 hgo
     have h4 := H4.out
     have hwr : wrap64 ((i : Int) + 1) = ((i + 1 : Nat) : Int) := by unfold wrap64; omega
     have i0 : (0 ≤ (i : Int)) = True := eq_true (by omega)
     have i4 : ((i : Int) < 4) = True := eq_true (by omega)
     unfold FA.step at hst
     by_cases c0 : n = 0
     ·
      rw [if_pos c0] at hst
      obtain rfl := Option.some.inj hst
      have c0b : (n == 0) = true := beq_iff_eq.mpr c0
      clear c0 hst
      go_wp2
      go_roundg k1
      case measure => have := HK1.out; omega
      case rel => exact ⟨acc, i + 1, by first | rfl | (simp [hwr]; done), HGO, ⟨by have := HK1.out; omega⟩, ⟨by omega⟩, HS⟩
     ·
      rw [if_neg c0] at hst
      have c0b : (n == 0) = false := beq_eq_false_iff_ne.mpr c0
      by_cases cl : acc.length ≤ 700000
      ·
       rw [if_pos cl] at hst
       by_cases c1 : n = 1
       ·
        rw [if_pos c1] at hst
        have c1b : (n == 1) = true := beq_iff_eq.mpr c1
        have cg : decide (0 < n) = true := decide_eq_true (by omega)
        by_cases ca : 0 < acc.length
        ·
         have cab : decide ((0 : Int) < (acc.length : Int)) = true := decide_eq_true (by omega)
         have cac : decide (0 < acc.length) = true := decide_eq_true ca
         have ep : FA.plus acc n = acc ++ [43] := by unfold FA.plus; rw [if_pos ⟨by omega, ca⟩]
         go_wp2_with (first | (go_at_call 53; refine (Bl.len HS.bl).mono ?_; rintro e W1 ⟨rfl, rfl⟩) | (go_at_call 54; refine (Bl.byteI _ 43 (by rfl) HS.bl (by first | omega | (simp; omega)) (Nat.le_of_lt HS.lt)).mono ?_; rintro e W1 ⟨rfl, hb_, hw_⟩; replace HS := HS.on hb_ hw_; clear hb_ hw_ e0 e1 e2; obtain ⟨e0, e1, e2⟩ := FA.cell HS.box) | (go_at_call 54; refine (Bl.byteI _ _ rfl HS.bl (by first | omega | (simp; omega)) (Nat.le_of_lt HS.lt)).mono ?_; rintro e W1 ⟨rfl, hb_, hw_⟩; replace HS := HS.on hb_ hw_; clear hb_ hw_ e0 e1 e2; obtain ⟨e0, e1, e2⟩ := FA.cell HS.box))
         go_roundg k1
         case measure => have := HK1.out; omega
         case rel =>
          obtain rfl := Option.some.inj hst
          refine ⟨_, i + 1, by first | rfl | simp, HGO, ⟨by have := HK1.out; omega⟩, ⟨by omega⟩, ?_⟩
          rw [ep, ← FA.nm_get i (by omega)]
          exact HS
        ·
         have cab : decide ((0 : Int) < (acc.length : Int)) = false := decide_eq_false (by omega)
         have cac : decide (0 < acc.length) = false := decide_eq_false ca
         have ep : FA.plus acc n = acc := by unfold FA.plus; rw [if_neg (by omega)]
         go_wp2_with (first | (go_at_call 53; refine (Bl.len HS.bl).mono ?_; rintro e W1 ⟨rfl, rfl⟩) | (go_at_call 54; refine (Bl.byteI _ _ rfl HS.bl (by first | omega | (simp; omega)) (Nat.le_of_lt HS.lt)).mono ?_; rintro e W1 ⟨rfl, hb_, hw_⟩; replace HS := HS.on hb_ hw_; clear hb_ hw_ e0 e1 e2; obtain ⟨e0, e1, e2⟩ := FA.cell HS.box))
         go_roundg k1
         case measure => have := HK1.out; omega
         case rel =>
          obtain rfl := Option.some.inj hst
          refine ⟨_, i + 1, by first | rfl | simp, HGO, ⟨by have := HK1.out; omega⟩, ⟨by omega⟩, ?_⟩
          rw [ep, ← FA.nm_get i (by omega)]
          exact HS
       ·
        rw [if_neg c1] at hst
        have c1b : (n == 1) = false := beq_eq_false_iff_ne.mpr c1
        by_cases c2 : n = -1
        ·
         rw [if_pos c2] at hst
         have c2b : (n == -1) = true := beq_iff_eq.mpr c2
         have cg : decide (0 < n) = false := decide_eq_false (by omega)
         have ep : FA.plus acc n = acc := by unfold FA.plus; rw [if_neg (by omega)]
         go_wp2_with (first | (go_at_call 54; refine (Bl.byteI _ 45 (by rfl) HS.bl (by first | omega | (simp; omega)) (Nat.le_of_lt HS.lt)).mono ?_; rintro e W1 ⟨rfl, hb_, hw_⟩; replace HS := HS.on hb_ hw_; clear hb_ hw_ e0 e1 e2; obtain ⟨e0, e1, e2⟩ := FA.cell HS.box) | (go_at_call 54; refine (Bl.byteI _ _ rfl HS.bl (by first | omega | (simp; omega)) (Nat.le_of_lt HS.lt)).mono ?_; rintro e W1 ⟨rfl, hb_, hw_⟩; replace HS := HS.on hb_ hw_; clear hb_ hw_ e0 e1 e2; obtain ⟨e0, e1, e2⟩ := FA.cell HS.box))
         go_roundg k1
         case measure => have := HK1.out; omega
         case rel =>
          obtain rfl := Option.some.inj hst
          refine ⟨_, i + 1, by first | rfl | simp, HGO, ⟨by have := HK1.out; omega⟩, ⟨by omega⟩, ?_⟩
          rw [ep, ← FA.nm_get i (by omega)]
          exact HS
        ·
         rw [if_neg c2] at hst
         have c2b : (n == -1) = false := beq_eq_false_iff_ne.mpr c2
         obtain ⟨tt, hfi, hst⟩ := Option.bind_eq_some_iff.mp hst
         have HFI := Aside0.mk hfi
         clear hfi
         by_cases ct : tt.size ≤ 100
         ·
          rw [if_pos ct] at hst
          by_cases cp : 0 < n
          ·
           have cg : decide (0 < n) = true := decide_eq_true (by omega)
           by_cases ca : 0 < acc.length
           ·
            have cab : decide ((0 : Int) < (acc.length : Int)) = true := decide_eq_true (by omega)
            have cac : decide (0 < acc.length) = true := decide_eq_true ca
            have ep : FA.plus acc n = acc ++ [43] := by unfold FA.plus; rw [if_pos ⟨by omega, ca⟩]
            go_wp2_with (first | (go_at_call 53; refine (Bl.len HS.bl).mono ?_; rintro e W1 ⟨rfl, rfl⟩) | (go_at_call 54; refine (Bl.byteI _ 43 (by rfl) HS.bl (by first | omega | (simp; omega)) (Nat.le_of_lt HS.lt)).mono ?_; rintro e W1 ⟨rfl, hb_, hw_⟩; replace HS := HS.on hb_ hw_; clear hb_ hw_ e0 e1 e2; obtain ⟨e0, e1, e2⟩ := FA.cell HS.box) | (go_at_call 56; refine (impl_FormatInt.calls n tt _ (laid_ HL_ (Aside0.mk HS.bw)) HFI.out).mono ?_; rintro e W1 ⟨rfl, hw_⟩; replace HS := HS.grown hw_; clear hw_ e0 e1 e2; obtain ⟨e0, e1, e2⟩ := FA.cell HS.box) | (go_at_call 55; refine (Bl.str tt HS.bl (by first | omega | (simp; omega)) (by first | omega | decide) (Nat.le_of_lt HS.lt)).mono ?_; rintro e W1 ⟨rfl, hb_, hw_⟩; replace HS := HS.on hb_ hw_; clear hb_ hw_ e0 e1 e2; obtain ⟨e0, e1, e2⟩ := FA.cell HS.box) | (go_at_call 54; refine (Bl.byteI _ _ rfl HS.bl (by first | omega | (simp; omega)) (Nat.le_of_lt HS.lt)).mono ?_; rintro e W1 ⟨rfl, hb_, hw_⟩; replace HS := HS.on hb_ hw_; clear hb_ hw_ e0 e1 e2; obtain ⟨e0, e1, e2⟩ := FA.cell HS.box))
            go_roundg k1
            case measure => have := HK1.out; omega
            case rel =>
             obtain rfl := Option.some.inj hst
             refine ⟨_, i + 1, by first | rfl | simp, HGO, ⟨by have := HK1.out; omega⟩, ⟨by omega⟩, ?_⟩
             rw [ep, ← FA.nm_get i (by omega)]
             exact HS
           ·
            have cab : decide ((0 : Int) < (acc.length : Int)) = false := decide_eq_false (by omega)
            have cac : decide (0 < acc.length) = false := decide_eq_false ca
            have ep : FA.plus acc n = acc := by unfold FA.plus; rw [if_neg (by omega)]
            go_wp2_with (first | (go_at_call 53; refine (Bl.len HS.bl).mono ?_; rintro e W1 ⟨rfl, rfl⟩) | (go_at_call 56; refine (impl_FormatInt.calls n tt _ (laid_ HL_ (Aside0.mk HS.bw)) HFI.out).mono ?_; rintro e W1 ⟨rfl, hw_⟩; replace HS := HS.grown hw_; clear hw_ e0 e1 e2; obtain ⟨e0, e1, e2⟩ := FA.cell HS.box) | (go_at_call 55; refine (Bl.str tt HS.bl (by first | omega | (simp; omega)) (by first | omega | decide) (Nat.le_of_lt HS.lt)).mono ?_; rintro e W1 ⟨rfl, hb_, hw_⟩; replace HS := HS.on hb_ hw_; clear hb_ hw_ e0 e1 e2; obtain ⟨e0, e1, e2⟩ := FA.cell HS.box) | (go_at_call 54; refine (Bl.byteI _ _ rfl HS.bl (by first | omega | (simp; omega)) (Nat.le_of_lt HS.lt)).mono ?_; rintro e W1 ⟨rfl, hb_, hw_⟩; replace HS := HS.on hb_ hw_; clear hb_ hw_ e0 e1 e2; obtain ⟨e0, e1, e2⟩ := FA.cell HS.box))
            go_roundg k1
            case measure => have := HK1.out; omega
            case rel =>
             obtain rfl := Option.some.inj hst
             refine ⟨_, i + 1, by first | rfl | simp, HGO, ⟨by have := HK1.out; omega⟩, ⟨by omega⟩, ?_⟩
             rw [ep, ← FA.nm_get i (by omega)]
             exact HS
          ·
           have cg : decide (0 < n) = false := decide_eq_false (by omega)
           have ep : FA.plus acc n = acc := by unfold FA.plus; rw [if_neg (by omega)]
           go_wp2_with (first | (go_at_call 56; refine (impl_FormatInt.calls n tt _ (laid_ HL_ (Aside0.mk HS.bw)) HFI.out).mono ?_; rintro e W1 ⟨rfl, hw_⟩; replace HS := HS.grown hw_; clear hw_ e0 e1 e2; obtain ⟨e0, e1, e2⟩ := FA.cell HS.box) | (go_at_call 55; refine (Bl.str tt HS.bl (by first | omega | (simp; omega)) (by first | omega | decide) (Nat.le_of_lt HS.lt)).mono ?_; rintro e W1 ⟨rfl, hb_, hw_⟩; replace HS := HS.on hb_ hw_; clear hb_ hw_ e0 e1 e2; obtain ⟨e0, e1, e2⟩ := FA.cell HS.box) | (go_at_call 54; refine (Bl.byteI _ _ rfl HS.bl (by first | omega | (simp; omega)) (Nat.le_of_lt HS.lt)).mono ?_; rintro e W1 ⟨rfl, hb_, hw_⟩; replace HS := HS.on hb_ hw_; clear hb_ hw_ e0 e1 e2; obtain ⟨e0, e1, e2⟩ := FA.cell HS.box))
           go_roundg k1
           case measure => have := HK1.out; omega
           case rel =>
            obtain rfl := Option.some.inj hst
            refine ⟨_, i + 1, by first | rfl | simp, HGO, ⟨by have := HK1.out; omega⟩, ⟨by omega⟩, ?_⟩
            rw [ep, ← FA.nm_get i (by omega)]
            exact HS
         ·
          rw [if_neg ct] at hst; exact absurd hst (by simp)
      ·
       rw [if_neg cl] at hst; exact absurd hst (by simp)
    ·
     have hie : i = l0_0.length := by have := HI.out; omega
     have hlt : decide ((i : Int) < (l0_0.length : Int)) = false := by simpa using hi
     have HG1 := HGO.out
     rw [List.drop_eq_nil_of_le (by omega), FA.go] at HG1
     obtain rfl : acc = fa := Option.some.inj HG1
     have hf := HFIN.out
     clear HG1 HGO HFIN hi
     unfold FA.fin at hf
     by_cases c0 : a0_1 = 0 ∧ 0 < acc.length
     ·
      rw [if_pos c0] at hf
      obtain ⟨rfl, ca⟩ := c0
      have cab : ((acc.length : Int) == 0) = false := beq_eq_false_iff_ne.mpr (by omega)
      unfold FA.tail at hf
      split at hf
      case isFalse => exact absurd hf (by simp)
      case isTrue hlen =>
      obtain rfl := Option.some.inj hf
      cases a0_2
      ·
       go_wp2_with (first | (go_at_call 53; refine (Bl.len HS.bl).mono ?_; rintro e W1 ⟨rfl, rfl⟩) | (go_at_call 55; refine (Bl.str _ HS.bl (by first | omega | (simp; omega)) (by first | omega | decide) (Nat.le_of_lt HS.lt)).mono ?_; rintro e W1 ⟨rfl, hb_, hw_⟩; replace HS := HS.on hb_ hw_; clear hb_ hw_ e0 e1 e2; obtain ⟨e0, e1, e2⟩ := FA.cell HS.box) | (go_at_call 57; refine (Bl.out HS.bl (Nat.le_of_lt HS.lt)).mono ?_; rintro e W1 ⟨rfl, HO⟩))
       go_ret
       exact ⟨by first | rfl | (simp; done) | (simp; rfl), HS.bw.trans (HO.mono (Nat.le_trans HS.wg (Nat.le_of_lt HS.gB)))⟩
      ·
       go_wp2_with (first | (go_at_call 53; refine (Bl.len HS.bl).mono ?_; rintro e W1 ⟨rfl, rfl⟩) | (go_at_call 55; refine (Bl.str _ HS.bl (by first | omega | (simp; omega)) (by first | omega | decide) (Nat.le_of_lt HS.lt)).mono ?_; rintro e W1 ⟨rfl, hb_, hw_⟩; replace HS := HS.on hb_ hw_; clear hb_ hw_ e0 e1 e2; obtain ⟨e0, e1, e2⟩ := FA.cell HS.box) | (go_at_call 57; refine (Bl.out HS.bl (Nat.le_of_lt HS.lt)).mono ?_; rintro e W1 ⟨rfl, HO⟩))
       go_ret
       exact ⟨by first | rfl | (simp; done) | (simp; rfl), HS.bw.trans (HO.mono (Nat.le_trans HS.wg (Nat.le_of_lt HS.gB)))⟩
     ·
      rw [if_neg c0] at hf
      obtain ⟨tt, hfi, hg⟩ := Option.bind_eq_some_iff.mp hf
      clear hf
      have hf := hg
      clear hg
      have HFI := Aside0.mk hfi
      clear hfi
      split at hf
      case isFalse => exact absurd hf (by simp)
      case isTrue hct =>
      obtain ⟨hl8, ct⟩ := hct
      by_cases cz : a0_1 = 0
      ·
       have ca : acc.length = 0 := by omega
       have cab : ((acc.length : Int) == 0) = true := beq_iff_eq.mpr (by omega)
       have ep : FA.plus acc a0_1 = acc := by unfold FA.plus; rw [if_neg (by omega)]
       rw [ep] at hf
       subst cz
       unfold FA.tail at hf
       split at hf
       case isFalse => exact absurd hf (by simp)
       case isTrue hlen =>
       obtain rfl := Option.some.inj hf
       cases a0_2
       ·
        go_wp2_with (first | (go_at_call 53; refine (Bl.len HS.bl).mono ?_; rintro e W1 ⟨rfl, rfl⟩) | (go_at_call 56; refine (impl_FormatInt.calls _ tt _ (laid_ HL_ (Aside0.mk HS.bw)) HFI.out).mono ?_; rintro e W1 ⟨rfl, hw_⟩; replace HS := HS.grown hw_; clear hw_ e0 e1 e2; obtain ⟨e0, e1, e2⟩ := FA.cell HS.box) | (go_at_call 55; refine (Bl.str _ HS.bl (by first | omega | (simp; omega)) (by first | omega | decide) (Nat.le_of_lt HS.lt)).mono ?_; rintro e W1 ⟨rfl, hb_, hw_⟩; replace HS := HS.on hb_ hw_; clear hb_ hw_ e0 e1 e2; obtain ⟨e0, e1, e2⟩ := FA.cell HS.box) | (go_at_call 57; refine (Bl.out HS.bl (Nat.le_of_lt HS.lt)).mono ?_; rintro e W1 ⟨rfl, HO⟩))
        go_ret
        exact ⟨by first | rfl | (simp; done) | (simp; rfl), HS.bw.trans (HO.mono (Nat.le_trans HS.wg (Nat.le_of_lt HS.gB)))⟩
       ·
        go_wp2_with (first | (go_at_call 53; refine (Bl.len HS.bl).mono ?_; rintro e W1 ⟨rfl, rfl⟩) | (go_at_call 56; refine (impl_FormatInt.calls _ tt _ (laid_ HL_ (Aside0.mk HS.bw)) HFI.out).mono ?_; rintro e W1 ⟨rfl, hw_⟩; replace HS := HS.grown hw_; clear hw_ e0 e1 e2; obtain ⟨e0, e1, e2⟩ := FA.cell HS.box) | (go_at_call 55; refine (Bl.str _ HS.bl (by first | omega | (simp; omega)) (by first | omega | decide) (Nat.le_of_lt HS.lt)).mono ?_; rintro e W1 ⟨rfl, hb_, hw_⟩; replace HS := HS.on hb_ hw_; clear hb_ hw_ e0 e1 e2; obtain ⟨e0, e1, e2⟩ := FA.cell HS.box) | (go_at_call 57; refine (Bl.out HS.bl (Nat.le_of_lt HS.lt)).mono ?_; rintro e W1 ⟨rfl, HO⟩))
        go_ret
        exact ⟨by first | rfl | (simp; done) | (simp; rfl), HS.bw.trans (HO.mono (Nat.le_trans HS.wg (Nat.le_of_lt HS.gB)))⟩
      ·
       have czb : (a0_1 == 0) = false := beq_eq_false_iff_ne.mpr cz
       by_cases cg : 0 < a0_1
       ·
        have cgb : decide (0 < a0_1) = true := decide_eq_true cg
        by_cases ca : 0 < acc.length
        ·
         have cab : decide ((0 : Int) < (acc.length : Int)) = true := decide_eq_true (by omega)
         have ep : FA.plus acc a0_1 = acc ++ [43] := by unfold FA.plus; rw [if_pos ⟨cg, ca⟩]
         rw [ep] at hf
         unfold FA.tail at hf
         split at hf
         case isFalse => exact absurd hf (by simp)
         case isTrue hlen =>
         obtain rfl := Option.some.inj hf
         cases a0_2
         ·
          go_wp2_with (first | (go_at_call 53; refine (Bl.len HS.bl).mono ?_; rintro e W1 ⟨rfl, rfl⟩) | (go_at_call 54; refine (Bl.byteI _ 43 (by rfl) HS.bl (by first | omega | (simp; omega)) (Nat.le_of_lt HS.lt)).mono ?_; rintro e W1 ⟨rfl, hb_, hw_⟩; replace HS := HS.on hb_ hw_; clear hb_ hw_ e0 e1 e2; obtain ⟨e0, e1, e2⟩ := FA.cell HS.box) | (go_at_call 56; refine (impl_FormatInt.calls _ tt _ (laid_ HL_ (Aside0.mk HS.bw)) HFI.out).mono ?_; rintro e W1 ⟨rfl, hw_⟩; replace HS := HS.grown hw_; clear hw_ e0 e1 e2; obtain ⟨e0, e1, e2⟩ := FA.cell HS.box) | (go_at_call 55; refine (Bl.str _ HS.bl (by first | omega | (simp; omega)) (by first | omega | decide) (Nat.le_of_lt HS.lt)).mono ?_; rintro e W1 ⟨rfl, hb_, hw_⟩; replace HS := HS.on hb_ hw_; clear hb_ hw_ e0 e1 e2; obtain ⟨e0, e1, e2⟩ := FA.cell HS.box) | (go_at_call 57; refine (Bl.out HS.bl (Nat.le_of_lt HS.lt)).mono ?_; rintro e W1 ⟨rfl, HO⟩))
          go_ret
          exact ⟨by first | rfl | (simp; done) | (simp; rfl), HS.bw.trans (HO.mono (Nat.le_trans HS.wg (Nat.le_of_lt HS.gB)))⟩
         ·
          go_wp2_with (first | (go_at_call 53; refine (Bl.len HS.bl).mono ?_; rintro e W1 ⟨rfl, rfl⟩) | (go_at_call 54; refine (Bl.byteI _ 43 (by rfl) HS.bl (by first | omega | (simp; omega)) (Nat.le_of_lt HS.lt)).mono ?_; rintro e W1 ⟨rfl, hb_, hw_⟩; replace HS := HS.on hb_ hw_; clear hb_ hw_ e0 e1 e2; obtain ⟨e0, e1, e2⟩ := FA.cell HS.box) | (go_at_call 56; refine (impl_FormatInt.calls _ tt _ (laid_ HL_ (Aside0.mk HS.bw)) HFI.out).mono ?_; rintro e W1 ⟨rfl, hw_⟩; replace HS := HS.grown hw_; clear hw_ e0 e1 e2; obtain ⟨e0, e1, e2⟩ := FA.cell HS.box) | (go_at_call 55; refine (Bl.str _ HS.bl (by first | omega | (simp; omega)) (by first | omega | decide) (Nat.le_of_lt HS.lt)).mono ?_; rintro e W1 ⟨rfl, hb_, hw_⟩; replace HS := HS.on hb_ hw_; clear hb_ hw_ e0 e1 e2; obtain ⟨e0, e1, e2⟩ := FA.cell HS.box) | (go_at_call 57; refine (Bl.out HS.bl (Nat.le_of_lt HS.lt)).mono ?_; rintro e W1 ⟨rfl, HO⟩))
          go_ret
          exact ⟨by first | rfl | (simp; done) | (simp; rfl), HS.bw.trans (HO.mono (Nat.le_trans HS.wg (Nat.le_of_lt HS.gB)))⟩
        ·
         have cab : decide ((0 : Int) < (acc.length : Int)) = false := decide_eq_false (by omega)
         have ep : FA.plus acc a0_1 = acc := by unfold FA.plus; rw [if_neg (by omega)]
         rw [ep] at hf
         unfold FA.tail at hf
         split at hf
         case isFalse => exact absurd hf (by simp)
         case isTrue hlen =>
         obtain rfl := Option.some.inj hf
         cases a0_2
         ·
          go_wp2_with (first | (go_at_call 53; refine (Bl.len HS.bl).mono ?_; rintro e W1 ⟨rfl, rfl⟩) | (go_at_call 56; refine (impl_FormatInt.calls _ tt _ (laid_ HL_ (Aside0.mk HS.bw)) HFI.out).mono ?_; rintro e W1 ⟨rfl, hw_⟩; replace HS := HS.grown hw_; clear hw_ e0 e1 e2; obtain ⟨e0, e1, e2⟩ := FA.cell HS.box) | (go_at_call 55; refine (Bl.str _ HS.bl (by first | omega | (simp; omega)) (by first | omega | decide) (Nat.le_of_lt HS.lt)).mono ?_; rintro e W1 ⟨rfl, hb_, hw_⟩; replace HS := HS.on hb_ hw_; clear hb_ hw_ e0 e1 e2; obtain ⟨e0, e1, e2⟩ := FA.cell HS.box) | (go_at_call 57; refine (Bl.out HS.bl (Nat.le_of_lt HS.lt)).mono ?_; rintro e W1 ⟨rfl, HO⟩))
          go_ret
          exact ⟨by first | rfl | (simp; done) | (simp; rfl), HS.bw.trans (HO.mono (Nat.le_trans HS.wg (Nat.le_of_lt HS.gB)))⟩
         ·
          go_wp2_with (first | (go_at_call 53; refine (Bl.len HS.bl).mono ?_; rintro e W1 ⟨rfl, rfl⟩) | (go_at_call 56; refine (impl_FormatInt.calls _ tt _ (laid_ HL_ (Aside0.mk HS.bw)) HFI.out).mono ?_; rintro e W1 ⟨rfl, hw_⟩; replace HS := HS.grown hw_; clear hw_ e0 e1 e2; obtain ⟨e0, e1, e2⟩ := FA.cell HS.box) | (go_at_call 55; refine (Bl.str _ HS.bl (by first | omega | (simp; omega)) (by first | omega | decide) (Nat.le_of_lt HS.lt)).mono ?_; rintro e W1 ⟨rfl, hb_, hw_⟩; replace HS := HS.on hb_ hw_; clear hb_ hw_ e0 e1 e2; obtain ⟨e0, e1, e2⟩ := FA.cell HS.box) | (go_at_call 57; refine (Bl.out HS.bl (Nat.le_of_lt HS.lt)).mono ?_; rintro e W1 ⟨rfl, HO⟩))
          go_ret
          exact ⟨by first | rfl | (simp; done) | (simp; rfl), HS.bw.trans (HO.mono (Nat.le_trans HS.wg (Nat.le_of_lt HS.gB)))⟩
       ·
        have cgb : decide (0 < a0_1) = false := decide_eq_false cg
        have ep : FA.plus acc a0_1 = acc := by unfold FA.plus; rw [if_neg (by omega)]
        rw [ep] at hf
        unfold FA.tail at hf
        split at hf
        case isFalse => exact absurd hf (by simp)
        case isTrue hlen =>
        obtain rfl := Option.some.inj hf
        cases a0_2
        ·
         go_wp2_with (first | (go_at_call 56; refine (impl_FormatInt.calls _ tt _ (laid_ HL_ (Aside0.mk HS.bw)) HFI.out).mono ?_; rintro e W1 ⟨rfl, hw_⟩; replace HS := HS.grown hw_; clear hw_ e0 e1 e2; obtain ⟨e0, e1, e2⟩ := FA.cell HS.box) | (go_at_call 55; refine (Bl.str _ HS.bl (by first | omega | (simp; omega)) (by first | omega | decide) (Nat.le_of_lt HS.lt)).mono ?_; rintro e W1 ⟨rfl, hb_, hw_⟩; replace HS := HS.on hb_ hw_; clear hb_ hw_ e0 e1 e2; obtain ⟨e0, e1, e2⟩ := FA.cell HS.box) | (go_at_call 57; refine (Bl.out HS.bl (Nat.le_of_lt HS.lt)).mono ?_; rintro e W1 ⟨rfl, HO⟩))
         go_ret
         exact ⟨by first | rfl | (simp; done) | (simp; rfl), HS.bw.trans (HO.mono (Nat.le_trans HS.wg (Nat.le_of_lt HS.gB)))⟩
        ·
         go_wp2_with (first | (go_at_call 56; refine (impl_FormatInt.calls _ tt _ (laid_ HL_ (Aside0.mk HS.bw)) HFI.out).mono ?_; rintro e W1 ⟨rfl, hw_⟩; replace HS := HS.grown hw_; clear hw_ e0 e1 e2; obtain ⟨e0, e1, e2⟩ := FA.cell HS.box) | (go_at_call 55; refine (Bl.str _ HS.bl (by first | omega | (simp; omega)) (by first | omega | decide) (Nat.le_of_lt HS.lt)).mono ?_; rintro e W1 ⟨rfl, hb_, hw_⟩; replace HS := HS.on hb_ hw_; clear hb_ hw_ e0 e1 e2; obtain ⟨e0, e1, e2⟩ := FA.cell HS.box) | (go_at_call 57; refine (Bl.out HS.bl (Nat.le_of_lt HS.lt)).mono ?_; rintro e W1 ⟨rfl, HO⟩))
         go_ret
         exact ⟨by first | rfl | (simp; done) | (simp; rfl), HS.bw.trans (HO.mono (Nat.le_trans HS.wg (Nat.le_of_lt HS.gB)))⟩
  ·
   rw [if_neg h4] at H1; exact absurd H1 (by simp)

/-! ### strings_CutSuffix: function 82 -/
def strings_CutSuffix.f (a0 : ByteArray) (a1 : ByteArray) : Option (ByteArray × Bool) := if a0.size ≤ 9223372036854775807 then some (⟨(Lib.trimSuffix a0.data.toList a1.data.toList).toArray⟩, Lib.hasSuffix a0.data.toList a1.data.toList) else none
theorem strings_CutSuffix.calls (a0 : ByteArray) (a1 : ByteArray) (r1 : ByteArray) (r2 : Bool) (w : World) (h : strings_CutSuffix.f a0 a1 = some (r1, r2)) :
  Calls Tryd.prog 82 #[.string a0, .string a1] w fun e w' => e = .returned (.tuple #[.string r1, .bool r2]) ∧ Drawn0 w w' := by
 unfold strings_CutSuffix.f at h
 split at h
 ·
  rename_i hb
  obtain ⟨rfl, rfl⟩ := Prod.mk.inj (Option.some.inj h)
  exact (Tryd.strings_CutSuffix a0 a1 w hb).mono fun e w' ⟨he, hw⟩ => ⟨he, hw ▸ Drawn0.refl _⟩
 ·
  exact absurd h (by simp)

/-! ### impl_ParseInt: function 17 -/
def impl_ParseInt.f (a0 : ByteArray) : Option (Int × Bool) := if a0.size ≤ 281474976710656 then (match Lib.atoiAll a0.data.toList with
 | .ok v => (impl_IsNumber.f v).bind fun t => if t = true then (impl_FormatInt.f v).bind fun u => if u.toList = a0.toList then some (v, true) else some (0, false) else some (0, false)
 | _ => some (0, false)) else none
theorem below_bytes (w : World) (e : TypeId) (s : ByteArray) : Below w.heap.size w (Lib.bytesWorld w e s) := by
 unfold Lib.bytesWorld World.freeze
 rw [if_neg (by decide)]
 refine ⟨rfl, rfl, rfl, ?_, fun k hk => ?_⟩
 ·
  show w.heap.size ≤ ((w.heap.push _).modify _ _).size
  rw [Array.size_modify, Array.size_push]; omega
 ·
  show ((w.heap.push _).modify w.heap.size _)[k]? = _
  rw [Array.getElem?_modify, if_neg (by omega), Array.getElem?_push, if_neg (by omega)]
set_option maxHeartbeats 4000000 in
set_option maxRecDepth 100000 in
theorem impl_ParseInt.calls (a0 : ByteArray) (r1 : Int) (r2 : Bool) (w : World) (hL : LaidW w) (h : impl_ParseInt.f a0 = some (r1, r2)) :
  Calls Tryd.prog 17 #[.string a0] w fun e w' => e = .returned (.tuple #[.int .i64 r1, .bool r2]) ∧ Below w.heap.size w w' := by
 unfold impl_ParseInt.f at h
 split at h
 case isFalse => cases h
 case isTrue hs =>
 have HL_ := Aside0.mk hL
 obtain ⟨ts, ps, hsyn⟩ := hL.syn
 obtain ⟨tr, pr, hrng⟩ := hL.rng
 clear hL
 cases hA : Lib.atoiAll a0.data.toList with
 | «syntax» =>
  rw [hA] at h
  obtain ⟨rfl, rfl⟩ := Prod.mk.inj (Option.some.inj h)
  have hc := Tryd.strconv_Atoi_syntax_var a0 hs hA ts ps w hsyn
  clear hA h
  go_enter Tryd.func17, Tryd.ntmps17
  go_wp2_with (go_at_call 60; refine hc.mono ?_; rintro e W1 ⟨M, rfl, _, _, hb⟩; have HB := Aside0.mk hb; clear hb)
  go_ret2
  exact ⟨rfl, HB.out⟩
 | range =>
  rw [hA] at h
  obtain ⟨rfl, rfl⟩ := Prod.mk.inj (Option.some.inj h)
  have hc := Tryd.strconv_Atoi_range_var a0 hs hA tr pr w hrng
  clear hA h
  go_enter Tryd.func17, Tryd.ntmps17
  go_wp2_with (go_at_call 60; refine hc.mono ?_; rintro e W1 ⟨M, rfl, _, _, hb⟩; have HB := Aside0.mk hb; clear hb)
  go_ret2
  exact ⟨rfl, HB.out⟩
 | ok v =>
  rw [hA] at h
  have h2 : ((impl_IsNumber.f v).bind fun t => if t = true then (impl_FormatInt.f v).bind fun u => if u.toList = a0.toList then some (v, true) else some (0, false) else some (0, false)) = some (r1, r2) := h
  clear h
  have hc0 := Tryd.strconv_Atoi_ok a0 (by omega) v hA w
  have hc : Calls Tryd.prog 60 #[.string a0] w fun e w' => e = .returned (.tuple #[.int .i64 v, .nilIface]) ∧ Below w.heap.size w w' := hc0.mono fun e w' hh => ⟨hh.1, by
   rcases hh.2 with rfl | ⟨t, rfl⟩
   ·
    exact Below.refl _ _
   ·
    exact below_bytes w _ t⟩
  clear hA hc0
  obtain ⟨t, ht, h3⟩ := Option.bind_eq_some_iff.mp h2
  clear h2
  have HT := Aside0.mk ht
  clear ht
  cases t with
  | false =>
   obtain ⟨rfl, rfl⟩ := Prod.mk.inj (Option.some.inj h3)
   clear h3
   go_enter Tryd.func17, Tryd.ntmps17
   go_wp2_with (first | (go_at_call 60; refine hc.mono ?_; rintro e W1 ⟨rfl, hb⟩; have HB := Aside0.mk hb; clear hb) | (go_at_call 61; refine (impl_IsNumber.calls v false _ HT.out).mono ?_; rintro e W2 ⟨rfl, ⟨n2, rfl⟩⟩))
   go_ret2
   exact ⟨rfl, by first | exact HB.out | exact bb_ HB⟩
  | true =>
   rw [if_pos rfl] at h3
   obtain ⟨u, hu, h4⟩ := Option.bind_eq_some_iff.mp h3
   have HU := Aside0.mk hu
   clear h3 hu
   by_cases he : u.toList = a0.toList
   ·
    rw [if_pos he] at h4
    obtain ⟨rfl, rfl⟩ := Prod.mk.inj (Option.some.inj h4)
    have hue : u = a0 := by rw [ByteArray.toList_eq, ByteArray.toList_eq] at he; exact ByteArray.ext (Array.toList_inj.1 he)
    subst hue
    clear h4 he
    go_enter Tryd.func17, Tryd.ntmps17
    go_wp2_with (first | (go_at_call 60; refine hc.mono ?_; rintro e W1 ⟨rfl, hb⟩; have HB := Aside0.mk hb; clear hb) | (go_at_call 61; refine (impl_IsNumber.calls _ true _ HT.out).mono ?_; rintro e W2 ⟨rfl, ⟨n2, rfl⟩⟩) | (go_at_call 56; refine (impl_FormatInt.calls _ _ _ (laid_ HL_ HB) HU.out).mono ?_; rintro e W3 ⟨rfl, hb3⟩; have HB3 := bS_ HB hb3; clear hb3))
    go_ret2
    exact ⟨rfl, by first | exact HB3.out | exact bb_ HB3⟩
   ·
    rw [if_neg he] at h4
    obtain ⟨rfl, rfl⟩ := Prod.mk.inj (Option.some.inj h4)
    have hne : (u.toList == a0.toList) = false := beq_eq_false_iff_ne.mpr he
    have hne2 : u ≠ a0 := fun e => he (by rw [e])
    have hne3 : (u.data == a0.data) = false := beq_eq_false_iff_ne.mpr (fun e => hne2 (ByteArray.ext e))
    clear h4
    go_enter Tryd.func17, Tryd.ntmps17
    go_wp2_with (first | (go_at_call 60; refine hc.mono ?_; rintro e W1 ⟨rfl, hb⟩; have HB := Aside0.mk hb; clear hb) | (go_at_call 61; refine (impl_IsNumber.calls _ true _ HT.out).mono ?_; rintro e W2 ⟨rfl, ⟨n2, rfl⟩⟩) | (go_at_call 56; refine (impl_FormatInt.calls _ _ _ (laid_ HL_ HB) HU.out).mono ?_; rintro e W3 ⟨rfl, hb3⟩; have HB3 := bS_ HB hb3; clear hb3))
    go_ret2
    exact ⟨rfl, by first | exact HB3.out | exact bb_ HB3⟩

/-! ### strings_TrimPrefix: function 105 -/
def strings_TrimPrefix.f (a0 : ByteArray) (a1 : ByteArray) : Option ByteArray := some ⟨(Lib.trimPrefix a0.data.toList a1.data.toList).toArray⟩
theorem strings_TrimPrefix.calls (a0 : ByteArray) (a1 : ByteArray) (r : ByteArray) (w : World) (h : strings_TrimPrefix.f a0 a1 = some r) :
  Calls Tryd.prog 105 #[.string a0, .string a1] w fun e w' => e = .returned (.string r) ∧ Drawn0 w w' := by
 obtain rfl := Option.some.inj h
 exact (Tryd.strings_TrimPrefix a0 a1 w).mono fun e w' ⟨he, hw⟩ => ⟨he, hw ▸ Drawn0.refl _⟩

-- NOT PRINTED: function 135 (bytealg_IndexByteString)

-- NOT PRINTED: function 124 (stringslite_IndexByte)

/-! ### strings_IndexByte: function 106 -/
def strings_IndexByte.f (a0 : ByteArray) (a1 : Int) : Option Int := some (Lib.indexByte a0.data.toList a1.toNat.toUInt8)
theorem strings_IndexByte.calls (a0 : ByteArray) (a1 : Int) (r : Int) (w : World) (h : strings_IndexByte.f a0 a1 = some r) :
  Calls Tryd.prog 106 #[.string a0, .int .u8 a1] w fun e w' => e = .returned (.int .i64 r) ∧ Drawn0 w w' := by
 obtain rfl := Option.some.inj h
 exact (Tryd.strings_IndexByte a0 a1 w).mono fun e w' ⟨he, hw⟩ => ⟨he, hw ▸ Drawn0.refl _⟩

end Go.Proofs.YtohoibekddhneaaDoor.PFnExactParseAtom
