/- Texts of the abs road (plain values, what code does to them, and the contracts of the functions that the law reaches). No condition. -/
import Derived.Test.YtjknjekemolndaaGreatG1FnExactNeatRegion
import Derived.Laws.OwnMore
namespace Go.Proofs.YtjknjekemolndaaGreat.Abs
open Go Go.RowKit
set_option linter.unusedVariables false
set_option linter.unusedSimpArgs false
structure Eff where
  v : V
  rd : List Key
  md : List Key
  up : Key → Option (Option Ent)
def noUp : Key → Option (Option Ent) := fun _ => none
def up1 (k : Key) (e : Option Ent) (u : Key → Option (Option Ent)) : Key → Option (Option Ent) := fun k' => if k' = k then some e else u k'
def app (u : Key → Option (Option Ent)) (H : Store) : Store := fun k => match u k with
  | some e => e
  | none => H k
def tput (d : Nat) (v : V) (T : Nat → V) : Nat → V := fun j => if j = d then v else T j
def putT (d : Option Nat) (v : V) (T : Nat → V) : Nat → V := match d with
  | some d => tput d v T
  | none => T
mutual
def slotsV : V → List Nat
  | .ref k _ => [k.1]
  | .sub k _ _ _ => [k.1]
  | .ptr k _ => [k.1]
  | .adr s _ => slotsV s
  | .agg c => slotsL c
  | .tup c => slotsL c
  | .fn _ c => slotsL c
  | .unk | .d _ | .nil => []
def slotsL : List V → List Nat
  | [] => []
  | v :: r => slotsV v ++ slotsL r
end
mutual
theorem slotsV_den {M : Key → Option Value} {F : Nat → Prop} {w : World} : ∀ {v : V} {u : Value} {j : Nat}, DenV M F w v u → j ∈ slotsV v → ∃ k : Key, k.1 = j ∧ M k ≠ none
  | .ref k n, u, j, h, hj => by
    unfold DenV at h; unfold slotsV at hj
    obtain rfl := List.mem_singleton.1 hj
    exact ⟨k, rfl, by rw [h.1]; simp⟩
  | .sub k z o n, u, j, h, hj => by
    unfold DenV at h; unfold slotsV at hj
    obtain rfl := List.mem_singleton.1 hj
    obtain ⟨_, _, _, _, _, h1, _⟩ := h
    exact ⟨k, rfl, by rw [h1]; simp⟩
  | .ptr k n, u, j, h, hj => by
    unfold DenV at h; unfold slotsV at hj
    obtain rfl := List.mem_singleton.1 hj
    obtain ⟨b, hb, _⟩ := h
    exact ⟨k, rfl, by rw [hb]; simp⟩
  | .adr s n, u, j, h, hj => by
    unfold DenV at h; unfold slotsV at hj
    obtain ⟨b, o, n, cap, _, hs⟩ := h
    exact slotsV_den hs hj
  | .agg c, u, j, h, hj => by
    unfold DenV at h; unfold slotsV at hj
    obtain ⟨cs, _, hs⟩ := h
    exact slotsL_den hs hj
  | .tup c, u, j, h, hj => by
    unfold DenV at h; unfold slotsV at hj
    obtain ⟨cs, _, hs⟩ := h
    exact slotsL_den hs hj
  | .fn _ c, u, j, h, hj => by
    unfold DenV at h; unfold slotsV at hj
    obtain ⟨cs, _, hs⟩ := h
    exact slotsL_den hs hj
  | .unk, u, j, h, hj => by unfold slotsV at hj; exact absurd hj (by simp)
  | .d _, u, j, h, hj => by unfold slotsV at hj; exact absurd hj (by simp)
  | .nil, u, j, h, hj => by unfold slotsV at hj; exact absurd hj (by simp)
theorem slotsL_den {M : Key → Option Value} {F : Nat → Prop} {w : World} : ∀ {c : List V} {us : List Value} {j : Nat}, DenVs M F w c us → j ∈ slotsL c → ∃ k : Key, k.1 = j ∧ M k ≠ none
  | [], us, j, h, hj => by unfold slotsL at hj; exact absurd hj (by simp)
  | v :: r, us, j, h, hj => by
    unfold DenVs at h; unfold slotsL at hj
    obtain ⟨u, us', rfl, hu, hr⟩ := h
    rcases List.mem_append.1 hj with hj | hj
    · exact slotsV_den hu hj
    · exact slotsL_den hr hj
end
structure OpOk (P : Program) (N nx s : Nat) (H : Store) (o : Oper) (ρ : Operand → V) (E : Eff) : Prop where
  ups : ∀ k, E.up k ≠ none → k.1 = s ∨ k ∈ E.md
  mds : ∀ k ∈ E.md, k ∈ E.rd
  rds : ∀ k ∈ E.rd, (H k).isSome ∧ (k.1 < nx ∨ ∃ x ∈ o.op.operands, k.1 ∈ slotsV (ρ x))
  run : ∀ {w0 F0 E0 fr T Hc a w M F}, fr s → At P N w0 F0 E0 fr T Hc a w M F → (∀ x ∈ o.op.operands, DenV M F w (ρ x) (a.eval x)) → (∀ k ∈ E.rd, Hc k = H k) → (∀ d, o.dst = some d → d < N) →
    ∀ Q, o.wp P a w (fun a' w' => Inv P N w0 F0 E0 (fun j => fr j ∧ j ≠ s) (putT o.dst E.v T) (app E.up Hc) a' w') Q
section
variable {P : Program} {N : Nat} {w0 : Base} {F0 E0 fr : Nat → Prop} {T : Nat → V} {H : Store} {a : Act} {w : World} {M : Key → Option Value} {F : Nat → Prop}
theorem putT_den {M' : Key → Option Value} {F' : Nat → Prop} {w' : World} {dst : Option Nat} {v : V} {u : Value} (hsz : a.tmps.size = N) (hd : ∀ d, dst = some d → d < N)
    (hT : ∀ j, DenV M' F' w' (T j) (a.tmps.getD j undef)) (hv : DenV M' F' w' v u) (j : Nat) : DenV M' F' w' (putT dst v T j) ((a.put dst u).tmps.getD j undef) := by
  cases dst with
  | none => exact hT j
  | some d =>
    have hdl : d < a.tmps.size := by rw [hsz]; exact hd d rfl
    simp only [putT, tput, Act.put]
    by_cases hj : j = d
    · subst hj
      rw [if_pos rfl]
      simp [Array.getD_eq_getD_getElem?, hdl]
      exact hv
    · rw [if_neg hj]
      have := hT j
      simp only [Array.getD_eq_getD_getElem?] at this ⊢
      rw [Array.getElem?_setIfInBounds_ne (by omega)]
      exact this
theorem At.step (h : At P N w0 F0 E0 fr T H a w M F) {s : Nat} {dst : Option Nat} {v : V} {u : Value} {w' : World} {M' : Key → Option Value} {F' C : Nat → Prop} {H' : Store}
    (hd : ∀ d, dst = some d → d < N) (hM : ∀ k x, M k = some x → M' k = some x) (hs : ∀ k : Key, k.1 ≠ s → M' k = M k) (hF : ∀ b, F0 b → ¬ E0 b → F' b) (hh : Holds F F' w w')
    (hR : Real P M' F' w' H') (hv : DenV M' F' w' v u) (hc : Chg C w w') (hC : ∀ i, C i → E0 i ∨ w0.heap.size ≤ i)
    (hr : ∀ k e u b, H' k = some e → e.live = true → M' k = some u → blkOf u = some b → E0 b ∨ w0.heap.size ≤ b) :
    Inv P N w0 F0 E0 (fun j => fr j ∧ j ≠ s) (putT dst v T) H' (a.put dst u) w' := by
  refine ⟨M', F', hF, hR, putT_den h.size hd (fun j => (h.tmps j).move hM hh) hv, fun k hk => ?_, hr, ?_, ?_, h.chg.then hc hC, h.lt0, fun k u hb => hM k u (h.base k u hb)⟩
  · rw [hs k hk.2]; exact h.free k hk.1
  · cases dst <;> exact h.defers
  · cases dst <;> simp [Act.put, h.size]
theorem Holds.refl (F : Nat → Prop) (w : World) : Holds F F w w := ⟨fun _ h => .inl h, fun _ _ _ => rfl⟩
theorem app_noUp (H : Store) : app noUp H = H := rfl
theorem OpOk.of_val {s nx : Nat} {o : Oper} {ρ : Operand → V} {v : V} (h : ValOk P o ρ v) : OpOk P N nx s H o ρ ⟨v, [], [], noUp⟩ := by
  refine ⟨fun k hk => absurd rfl hk, fun k hk => absurd hk (by simp), fun k hk => absurd hk (by simp), fun {w0 F0 E0 fr T Hc a w M F} hs hat hρ _ hd Q => ?_⟩
  obtain ⟨u, hu, hv⟩ := h M F w a.eval hρ
  unfold Oper.wp
  rw [hu, Oper.upon_value]
  exact hat.step hd (fun _ _ h => h) (fun _ _ => rfl) hat.keep (Holds.refl F w) hat.real hv (Chg.refl (fun _ => False) w) (fun _ h => h.elim) hat.reach
def cellsAt (H : Store) : V → Option (List V × Nat)
  | .ptr k o => match H k with
    | some (.box c) => some (c, o)
    | _ => none
  | .adr (.d (.sl _ c)) o => some (c.map V.d, o)
  | .adr (.ref k _) o => match H k with
    | some (.row _ _ c) => some (c, o)
    | some (.fz _ c) => some (c.map V.d, o)
    | _ => none
  | _ => none
def keyAt : V → List Key
  | .ptr k _ => [k]
  | .adr (.ref k _) _ => [k]
  | _ => []
theorem keyAt_slot : ∀ {x : V} {k : Key}, k ∈ keyAt x → k.1 ∈ slotsV x
  | .ptr k o, k', h => by simp [keyAt] at h; subst h; simp [slotsV]
  | .adr (.ref k n) o, k', h => by simp [keyAt] at h; subst h; simp [slotsV]
  | .adr .unk _, k', h => by simp [keyAt] at h
  | .adr (.d _) _, k', h => by simp [keyAt] at h
  | .adr .nil _, k', h => by simp [keyAt] at h
  | .adr (.ptr ..) _, k', h => by simp [keyAt] at h
  | .adr (.adr ..) _, k', h => by simp [keyAt] at h
  | .adr (.agg _) _, k', h => by simp [keyAt] at h
  | .adr (.tup _) _, k', h => by simp [keyAt] at h
  | .adr (.fn ..) _, k', h => by simp [keyAt] at h
  | .adr (.sub ..) _, k', h => by simp [keyAt] at h
  | .unk, k', h => by simp [keyAt] at h
  | .d _, k', h => by simp [keyAt] at h
  | .nil, k', h => by simp [keyAt] at h
  | .ref .., k', h => by simp [keyAt] at h
  | .agg _, k', h => by simp [keyAt] at h
  | .tup _, k', h => by simp [keyAt] at h
  | .fn .., k', h => by simp [keyAt] at h
  | .sub .., k', h => by simp [keyAt] at h
theorem rangeAt_row {w : World} {b : Nat} {cs : Array Value} {t : TypeId} {fz : Nat × Nat} (h : w.heap[b]? = some (.cells cs t fz)) : w.rangeAt b 0 cs.toList := fun j v hv => by
  rw [Nat.zero_add]
  simp only [World.cell?, h]
  simpa using hv
theorem cellsAt_den {x : V} {c : List V} {o : Nat} {u : Value} (hc : cellsAt H x = some (c, o)) (hR : Real P M F w H) (hx : DenV M F w x u) :
    ∃ b p us, u = .pointer (some ⟨b, p + o, none⟩) ∧ w.rangeAt b p us ∧ DenVs M F w c us := by
  unfold cellsAt at hc
  split at hc
  · rename_i k off
    split at hc
    · rename_i c' hk
      simp only [Option.some.injEq, Prod.mk.injEq] at hc
      obtain ⟨rfl, rfl⟩ := hc
      obtain ⟨v, hv, hok, _⟩ := hR.ent _ _ hk
      obtain ⟨b, cs, t, rfl, hb, hd⟩ := hok
      unfold DenV at hx
      obtain ⟨b', hb', rfl⟩ := hx
      rw [hv] at hb'
      simp only [Option.some.injEq, Value.pointer.injEq, Addr.mk.injEq, and_true] at hb'
      subst hb'
      exact ⟨b, 0, _, by simp, rangeAt_row hb, hd⟩
    · exact absurd hc (by simp)
  · rename_i n cd off
    simp only [Option.some.injEq, Prod.mk.injEq] at hc
    obtain ⟨rfl, rfl⟩ := hc
    unfold DenV at hx
    obtain ⟨b, p, n', cap, rfl, hs⟩ := hx
    unfold DenV DenD at hs
    obtain ⟨A, cap', he, _, _, hcd⟩ := hs
    injection he with e1 e2 e3
    rcases hcd with rfl | ⟨b', o', hA, _, hd⟩
    · exact ⟨b, p, [], rfl, fun j v hv => by simp at hv, DenVs.nil⟩
    · rw [hA] at e1
      simp only [Option.some.injEq, Addr.mk.injEq, and_true] at e1
      obtain ⟨rfl, rfl⟩ := e1
      obtain ⟨us, h1, h2⟩ := DenDs.values (M := M) hd
      exact ⟨_, _, us, rfl, h1, h2⟩
  · rename_i k n off
    unfold DenV at hx
    obtain ⟨b, p, n', cap, rfl, hs⟩ := hx
    unfold DenV at hs
    obtain ⟨hMk, _⟩ := hs
    split at hc
    · rename_i e m c' hk
      simp only [Option.some.injEq, Prod.mk.injEq] at hc
      obtain ⟨rfl, rfl⟩ := hc
      obtain ⟨v, hv, hok, _⟩ := hR.ent _ _ hk
      rw [hMk] at hv
      obtain rfl := Option.some.inj hv
      rcases hok with ⟨xs, i, _, hown, hd⟩ | ⟨A, he, rfl, rfl⟩
      · rcases hown.2 with ⟨he, hn⟩ | ⟨g, cap', cur, he, _, hg, _, _, _, ht⟩
        · simp at he
        · simp only [Value.slice.injEq, Option.some.injEq, Addr.mk.injEq, and_true] at he
          obtain ⟨⟨rfl, rfl⟩, _, _⟩ := he
          refine ⟨_, _, xs, rfl, fun j v hv => ?_, hd⟩
          rw [← ht] at hv
          have hj := (List.getElem?_eq_some_iff.1 hv).1
          rw [List.getElem?_take_of_lt (by simp at hj; omega)] at hv
          exact rangeAt_row hg j v hv
      · exact ⟨_, _, [], rfl, fun j v hv => by simp at hv, DenVs.nil⟩
    · rename_i m c' hk
      simp only [Option.some.injEq, Prod.mk.injEq] at hc
      obtain ⟨rfl, rfl⟩ := hc
      obtain ⟨v, hv, hok, _⟩ := hR.ent _ _ hk
      rw [hMk] at hv
      obtain rfl := Option.some.inj hv
      unfold EntOk DenD at hok
      obtain ⟨A, cap', he, _, _, hcd⟩ := hok
      injection he with e1 e2 e3
      rcases hcd with rfl | ⟨b', o', hA, _, hd⟩
      · exact ⟨_, _, [], rfl, fun j v hv => by simp at hv, DenVs.nil⟩
      · rw [hA] at e1
        simp only [Option.some.injEq, Addr.mk.injEq, and_true] at e1
        obtain ⟨rfl, rfl⟩ := e1
        obtain ⟨us, h1, h2⟩ := DenDs.values (M := M) hd
        exact ⟨_, _, us, rfl, h1, h2⟩
    · exact absurd hc (by simp)
  · exact absurd hc (by simp)
theorem keyAt_isSome {x : V} {c : List V} {o : Nat} (hc : cellsAt H x = some (c, o)) : ∀ k ∈ keyAt x, (H k).isSome = true := by
  unfold cellsAt at hc
  split at hc
  · rename_i k off
    intro k' hk'
    simp [keyAt] at hk'; subst hk'
    split at hc
    · rename_i h; rw [h]; rfl
    · exact absurd hc (by simp)
  · intro k' hk'; simp [keyAt] at hk'
  · rename_i k n off
    intro k' hk'
    simp [keyAt] at hk'; subst hk'
    split at hc
    · rename_i h; rw [h]; rfl
    · rename_i h; rw [h]; rfl
    · exact absurd hc (by simp)
  · exact absurd hc (by simp)
theorem cellsAt_congr {H' : Store} {x : V} (h : ∀ k ∈ keyAt x, H' k = H k) : cellsAt H' x = cellsAt H x := by
  cases x with
  | ptr k o => simp only [cellsAt]; rw [h k (by simp [keyAt])]
  | adr s o =>
    cases s with
    | ref k n => simp only [cellsAt]; rw [h k (by simp [keyAt])]
    | d y => cases y <;> rfl
    | _ => rfl
  | _ => rfl
def loadS (P : Program) (H : Store) (t : TypeId) (p : V) (K : Eff → Prop) : Prop := match cellsAt H p, digest P t with
  | some (c, o), some I => partV I c o fun v => K ⟨v, keyAt p, [], noUp⟩
  | _, _ => False
theorem partL_den {I : TI} {t : TypeId} (ht : digest P t = some I) {c : List V} {o : Nat} {K : V → Prop} (h : partV I c o K) :
    ∃ v, K v ∧ ∀ (M : Key → Option Value) (F : Nat → Prop) (w : World) (us : List Value) (b p : Nat), DenVs M F w c us → w.rangeAt b p us → ∃ u, (loadVar t ⟨b, p + o, none⟩).run P w = .ok u w ∧ DenV M F w v u := by
  unfold partV at h
  split at h
  · rename_i hs
    refine ⟨_, h.2, fun M F w us b p hd hr => ?_⟩
    have h1 := h.1
    obtain ⟨k, s, by_, zc⟩ := I
    obtain ⟨fs, rfl⟩ : ∃ fs, k = .struct fs := by cases k <;> first | exact ⟨_, rfl⟩ | (simp [isStruct] at hs)
    obtain ⟨fa, hu, _⟩ := digest_struct ht
    obtain ⟨i, hi, hsz, _⟩ := digest_size ht
    have hl : ((us.drop o).take s).length = s := by simp [hd.length]; simp only at h1; omega
    refine ⟨_, run_loadVar_mid w b (p + o) t ((us.drop o).take s) (.struct fa) (fun j v hv => ?_) hu rfl (by rw [hi, hl]; simp [hsz]), ?_⟩
    · have hj := (List.getElem?_eq_some_iff.1 hv).1
      rw [List.getElem?_take_of_lt (by omega), List.getElem?_drop] at hv
      rw [Nat.add_assoc]
      exact hr (o + j) v hv
    · unfold DenV
      exact ⟨_, rfl, by simpa [cut] using (hd.drop o).take s⟩
  · rename_i hs
    cases hg : c[o]? with
    | none => rw [hg] at h; exact h.elim
    | some v =>
      rw [hg] at h
      refine ⟨v, h, fun M F w us b p hd hr => ?_⟩
      obtain ⟨u, hu, hv⟩ := hd.get hg
      have hk : ∀ fs, I.k ≠ .struct fs := by rintro fs he; rw [he] at hs; simp [isStruct] at hs
      refine ⟨u, ?_, hv⟩
      simp only [loadVar, Sem.run_bind, digest_scalar ht hk, Result.andThen_ok, Bool.false_eq_true, if_false, run_load, hr o u hu]
theorem loadS_sound {nx s : Nat} {o : Oper} {ρ : Operand → V} {t : TypeId} {p : Operand} (ho : o.op = .load t p) {K : Eff → Prop} (h : loadS P H t (ρ p) K) : ∃ E, K E ∧ OpOk P N nx s H o ρ E := by
  unfold loadS at h
  split at h
  · rename_i c off I hc hI
    obtain ⟨v, hk, hd⟩ := partL_den hI h
    refine ⟨_, hk, fun k hk => absurd rfl hk, fun k hk => absurd hk (by simp), fun k hk => ⟨keyAt_isSome hc k hk, .inr ⟨p, by simp [ho, Op.operands], keyAt_slot hk⟩⟩, fun {w0 F0 E0 fr T Hc a w M F} hs hat hρ hH hdst Q => ?_⟩
    have h1 := hρ p (by simp [ho, Op.operands])
    have hc' : cellsAt Hc (ρ p) = some (c, off) := by rw [cellsAt_congr hH]; exact hc
    obtain ⟨b, q, us, hu, hr, hds⟩ := cellsAt_den hc' hat.real h1
    obtain ⟨u, hu2, hv⟩ := hd M F w us b q hds hr
    unfold Oper.wp execOp
    simp only [ho, hu, Instr.loadAt, Instr.sureAddr, Sem.run_bind, Sem.run_pure, Result.andThen_ok, hu2, Oper.upon_value]
    exact hat.step hdst (fun _ _ h => h) (fun _ _ => rfl) hat.keep (Holds.refl F w) hat.real hv (Chg.refl (fun _ => False) w) (fun _ h => h.elim) hat.reach
  · exact h.elim
end
end Go.Proofs.YtjknjekemolndaaGreat.Abs
namespace Go.Proofs.YtjknjekemolndaaGreat.Abs
open Go Go.RowKit
set_option linter.unusedVariables false
set_option linter.unusedSimpArgs false
section
variable {P : Program} {N : Nat} {w0 : Base} {F0 E0 fr : Nat → Prop} {T : Nat → V} {H : Store} {a : Act} {w : World} {M : Key → Option Value} {F : Nat → Prop}
theorem EntOk.move {M' : Key → Option Value} {F' : Nat → Prop} {w' : World} {e : Ent} {u : Value} (hM : ∀ k x, M k = some x → M' k = some x) (hh : Holds F F' w w')
    (hb : e.live = true → ∀ b, blkOf u = some b → w'.heap[b]? = w.heap[b]?) (h : EntOk P M F w e u) : EntOk P M' F' w' e u := by
  cases e with
  | box c =>
    obtain ⟨b, cs, t, rfl, hc, hd⟩ := h
    exact ⟨b, cs, t, rfl, by rw [hb rfl b rfl]; exact hc, hd.move hM hh⟩
  | row e n c =>
    rcases h with ⟨xs, i, hi, hown, hd⟩ | h
    · rcases hown.2 with ⟨rfl, rfl⟩ | ⟨g, cap, cur, rfl, hg, hc, hn, hm, hs, ht⟩
      · exact .inl ⟨xs, i, hi, ⟨hown.1, .inl ⟨rfl, rfl⟩⟩, hd.move hM hh⟩
      · by_cases h0 : cap = 0
        · subst h0
          obtain rfl : n = 0 := by omega
          have hx : xs.length = 0 := by rw [hown.1]; simp
          have hcl : c = [] := List.eq_nil_of_length_eq_zero (by rw [← hd.length, hx])
          exact .inr ⟨_, rfl, rfl, hcl⟩
        · exact .inl ⟨xs, i, hi, ⟨hown.1, .inr ⟨g, cap, cur, rfl, hg, by rw [hb rfl g (by simp [blkOf, h0])]; exact hc, hn, hm, hs, ht⟩⟩, hd.move hM hh⟩
    · exact .inr h
  | fz n c => exact DenD.move hh h
def setH (k : Key) (e : Option Ent) (H : Store) : Store := fun j => if j = k then e else H j
theorem app_up1 (k : Key) (e : Option Ent) (u : Key → Option (Option Ent)) (H : Store) : app (up1 k e u) H = setH k e (app u H) := by
  funext j
  unfold app up1 setH
  by_cases h : j = k <;> simp [h]
theorem setH_same (k : Key) (e : Option Ent) (H : Store) : setH k e H k = e := by simp [setH]
theorem Real.set {M' : Key → Option Value} {F' : Nat → Prop} {w' : World} {H1 : Store} {k : Key} {e' : Ent} {u' : Value} (hR : Real P M F w H)
    (hM : ∀ k x, M k = some x → M' k = some x) (hh : Holds F F' w w') (hFF : ∀ b, F b → F' b)
    (h1 : ∀ j e, j ≠ k → H1 j = some e → H j = some e)
    (hb : ∀ j e u b, j ≠ k → H1 j = some e → e.live = true → M j = some u → blkOf u = some b → w'.heap[b]? = w.heap[b]?)
    (hk : M' k = some u') (hok : EntOk P M' F' w' e' u') (hl : e'.live = true → ∀ b, blkOf u' = some b → F' b)
    (hne : ∀ j e u b, j ≠ k → H1 j = some e → e.live = true → e'.live = true → M j = some u → blkOf u = some b → blkOf u' = some b → False) :
    Real P M' F' w' (setH k (some e') H1) := by
  have hget : ∀ j e, setH k (some e') H1 j = some e → (j = k ∧ e = e') ∨ (j ≠ k ∧ H1 j = some e) := by
    intro j e h
    unfold setH at h
    by_cases hj : j = k
    · rw [if_pos hj] at h; exact .inl ⟨hj, (Option.some.inj h).symm⟩
    · rw [if_neg hj] at h; exact .inr ⟨hj, h⟩
  constructor
  · intro j e h
    rcases hget j e h with ⟨rfl, rfl⟩ | ⟨hj, h⟩
    · exact ⟨u', hk, hok, hl⟩
    · obtain ⟨u, hu, ho, hF⟩ := hR.ent j e (h1 j e hj h)
      exact ⟨u, hM _ _ hu, ho.move hM hh (fun hlv b hbk => hb j e u b hj h hlv hu hbk), fun hlv b hbk => hFF b (hF hlv b hbk)⟩
  · intro j j' e1 e2 u1 u2 b ha hb' l1 l2 m1 m2 b1 b2
    have hold : ∀ j e u, j ≠ k → H1 j = some e → M' j = some u → M j = some u := by
      intro j e u hj h hu
      obtain ⟨x, hx, _⟩ := hR.ent j e (h1 j e hj h)
      rw [hM _ _ hx] at hu
      rw [hx, hu]
    rcases hget j e1 ha with ⟨rfl, rfl⟩ | ⟨hj, ha1⟩ <;> rcases hget j' e2 hb' with ⟨rfl, rfl⟩ | ⟨hj', hb1⟩
    · rfl
    · rw [hk] at m1
      obtain rfl := Option.some.inj m1
      exact (hne j' e2 u2 b hj' hb1 l2 l1 (hold j' e2 u2 hj' hb1 m2) b2 b1).elim
    · rw [hk] at m2
      obtain rfl := Option.some.inj m2
      exact (hne j e1 u1 b hj ha1 l1 l2 (hold j e1 u1 hj ha1 m1) b1 b2).elim
    · exact hR.inj j j' e1 e2 u1 u2 b (h1 j e1 hj ha1) (h1 j' e2 hj' hb1) l1 l2 (hold j e1 u1 hj ha1 m1) (hold j' e2 u2 hj' hb1 m2) b1 b2
theorem Real.sub {H1 : Store} (hR : Real P M F w H) (h1 : ∀ j e, H1 j = some e → H j = some e) : Real P M F w H1 :=
  ⟨fun k e h => hR.ent k e (h1 k e h), fun k k' e e' u u' b h h' => hR.inj k k' e e' u u' b (h1 _ _ h) (h1 _ _ h')⟩
def writeAt (H : Store) (x : V) (ws : List V) : Option (Key × Ent) := match x with
  | .ptr k o => match H k with
    | some (.box c) => if o + ws.length ≤ c.length then some (k, .box (splice c o ws)) else none
    | _ => none
  | .adr (.ref k _) o => match H k with
    | some (.row e n c) => if o + ws.length ≤ c.length then some (k, .row e n (splice c o ws)) else none
    | _ => none
  | _ => none
def storeS (P : Program) (H : Store) (t : TypeId) (p v : V) (K : Eff → Prop) : Prop := match digest P t with
  | some I => (okC v = true ∧ (cellsV v).length = I.size ∧ (cellsV v).all V.one = true) ∧ match writeAt H p (cellsV v) with
    | some (k, e) => K ⟨.unk, [k], [k], up1 k (some e) noUp⟩
    | none => False
  | none => False
theorem run_storeVar_at {I : TI} {t : TypeId} (ht : digest P t = some I) {b o : Nat} {cs : Array Value} {et : TypeId} {u : Value} (hb : w.heap[b]? = some (.cells cs et (0, 0))) (hs : u.cells.size = I.size)
    (ho : o + u.cells.size ≤ cs.size) (h1 : ∀ v ∈ u.cells.toList, v.oneCell' = true) :
    (storeVar t ⟨b, o, none⟩ u).run P w = .ok () (w.setRow b (cs.toList.take o ++ u.cells.toList ++ cs.toList.drop (o + u.cells.size)).toArray) := by
  have := run_storeCells_at (P := P) b o et u.cells.toList 0 cs w hb (by simpa using ho) h1
  simp only [Nat.add_zero, Array.length_toList] at this
  simp only [storeVar, Sem.run_bind, run_sizeOf_digest ht, Result.andThen_ok, hs, ne_eq, not_true_eq_false, if_false, this]
theorem setRow_drawn (w : World) (b : Nat) (cs : Array Value) : (w.setRow b cs).drawn = w.drawn := rfl
theorem setRow_chg (w : World) (b : Nat) (cs : Array Value) : Chg (fun i => i = b) w (w.setRow b cs) := ⟨rfl, rfl, rfl, by simp, fun i hi _ => setRow_other w b i cs hi, Nat.le_of_eq (setRow_drawn w b cs).symm⟩
theorem holds_of_chg {F : Nat → Prop} {w w' : World} {b : Nat} (h : Chg (fun i => i = b) w w') (hb : F b) : Holds F F w w' := ⟨fun _ h => .inl h, fun i hi hl => h.block i (fun e => hi (e ▸ hb)) hl⟩
theorem block_lt {w : World} {b : Nat} {o : Obj} (h : w.heap[b]? = some o) : b < w.heap.size := (Array.getElem?_eq_some_iff.1 h).1
theorem storeS_sound {nx s : Nat} {o : Oper} {ρ : Operand → V} {t : TypeId} {p x : Operand} (ho : o.op = .store t p x) {K : Eff → Prop} (h : storeS P H t (ρ p) (ρ x) K) : ∃ E, K E ∧ OpOk P N nx s H o ρ E := by
  unfold storeS at h
  split at h
  · rename_i I hI
    obtain ⟨⟨hok, hlen, hone⟩, h⟩ := h
    split at h
    · rename_i k e hw
      have hkey : keyAt (ρ p) = [k] ∧ (H k).isSome = true ∧ ∀ Hc : Store, Hc k = H k → writeAt Hc (ρ p) (cellsV (ρ x)) = some (k, e) := by
        unfold writeAt at hw
        split at hw
        · rename_i k' o' hp
          rw [hp]
          split at hw
          · rename_i c hk
            split at hw
            · rename_i hb
              simp only [Option.some.injEq, Prod.mk.injEq] at hw
              obtain ⟨rfl, rfl⟩ := hw
              exact ⟨rfl, by rw [hk]; rfl, fun Hc hc => by simp only [writeAt, hc, hk, if_pos hb]⟩
            · exact absurd hw (by simp)
          · exact absurd hw (by simp)
        · rename_i k' n' o' hp
          rw [hp]
          split at hw
          · rename_i e' n c hk
            split at hw
            · rename_i hb
              simp only [Option.some.injEq, Prod.mk.injEq] at hw
              obtain ⟨rfl, rfl⟩ := hw
              exact ⟨rfl, by rw [hk]; rfl, fun Hc hc => by simp only [writeAt, hc, hk, if_pos hb]⟩
            · exact absurd hw (by simp)
          · exact absurd hw (by simp)
        · exact absurd hw (by simp)
      obtain ⟨hk1, hk2, hk3⟩ := hkey
      refine ⟨_, h, fun j hj => ?_, fun j hj => hj, fun j hj => ?_, fun {w0 F0 E0 fr T Hc a w M F} hs hat hρ hH hdst Q => ?_⟩
      · right
        simp only [up1] at hj
        by_cases e : j = k
        · simp [e]
        · rw [if_neg e] at hj; exact absurd rfl hj
      · obtain rfl := List.mem_singleton.1 hj
        exact ⟨hk2, .inr ⟨p, by simp [ho, Op.operands], keyAt_slot (by rw [hk1]; exact List.mem_singleton.2 rfl)⟩⟩
      · have hp := hρ p (by simp [ho, Op.operands])
        have hx := hρ x (by simp [ho, Op.operands])
        have hcd := cellsV_den hx hok
        have hsz : (a.eval x).cells.size = I.size := by rw [← hlen, ← hcd.length]; simp
        have hones := hcd.oneCell hone
        have hwc := hk3 Hc (hH k (List.mem_singleton.2 rfl))
        have core : ∀ (b q : Nat) (cs : Array Value) (et : TypeId) (u : Value) (e0 : Ent), a.eval p = .pointer (some ⟨b, q, none⟩) → w.heap[b]? = some (.cells cs et (0, 0)) → q + (cellsV (ρ x)).length ≤ cs.size →
            Hc k = some e0 → e0.live = true → M k = some u → blkOf u = some b → e.live = true →
            (∀ w' : World, w'.heap[b]? = some (.cells (cs.toList.take q ++ (a.eval x).cells.toList ++ cs.toList.drop (q + (a.eval x).cells.size)).toArray et (0, 0)) → Holds F F w w' → EntOk P M F w' e u) →
            o.wp P a w (fun a' w' => Inv P N w0 F0 E0 (fun j => fr j ∧ j ≠ s) (putT o.dst .unk T) (app (up1 k (some e) noUp) Hc) a' w') Q := by
          intro b q cs et u e0 hpe hb hq hk0 hl0 hMk hbk hle hent
          have hrun := run_storeVar_at (w := w) hI hb hsz (by rw [hsz, ← hlen]; exact hq) hones
          have hFb : F b := (hat.real.ent k e0 hk0).elim fun v hv => by
            obtain ⟨hv1, _, hv3⟩ := hv
            rw [hMk] at hv1
            obtain rfl := Option.some.inj hv1
            exact hv3 hl0 b hbk
          unfold Oper.wp execOp
          simp only [ho, hpe, Instr.storeAt, Instr.sureAddr, Sem.run_bind, Sem.run_pure, Result.andThen_ok, hrun]
          rw [Oper.upon_skip]
          have hchg := setRow_chg w b (cs.toList.take q ++ (a.eval x).cells.toList ++ cs.toList.drop (q + (a.eval x).cells.size)).toArray
          have hh := holds_of_chg hchg hFb
          rw [app_up1, app_noUp]
          refine hat.step hdst (fun _ _ h => h) (fun _ _ => rfl) hat.keep hh ?_ (by unfold DenV; trivial) hchg (fun i hi => by subst hi; exact hat.reach k e0 u _ hk0 hl0 hMk hbk) ?_
          · refine hat.real.set (fun _ _ h => h) hh (fun _ h => h) (fun j e1 hj h => h) (fun j e1 u1 b1 hj h hl hm hb1 => ?_) hMk (hent _ (setRow_heap w b cs _ et (0, 0) hb) hh) (fun _ b1 hb1 => ?_) (fun j e1 u1 b1 hj h hl _ hm hb1 hb2 => ?_)
            · refine setRow_other w b b1 _ (fun he => hj ?_)
              subst he
              exact hat.real.inj j k e1 e0 u1 u b1 h hk0 hl hl0 hm hMk hb1 hbk
            · rw [hbk] at hb1; obtain rfl := Option.some.inj hb1; exact hFb
            · exact hj (hat.real.inj j k e1 e0 u1 u b1 h hk0 hl hl0 hm hMk hb1 hb2)
          · intro j e1 u1 b1 hj hl hm hb1
            simp only [setH] at hj
            by_cases hjk : j = k
            · subst hjk
              rw [hMk] at hm
              obtain rfl := Option.some.inj hm
              exact hat.reach j e0 u b1 hk0 hl0 hMk hb1
            · rw [if_neg hjk] at hj
              exact hat.reach j e1 u1 b1 hj hl hm hb1
        clear hk3
        unfold writeAt at hwc
        split at hwc
        · rename_i k' o' hp'
          split at hwc
          · rename_i c hk
            split at hwc
            · rename_i hb
              simp only [Option.some.injEq, Prod.mk.injEq] at hwc
              obtain ⟨rfl, rfl⟩ := hwc
              obtain ⟨u, hu, hoku, _⟩ := hat.real.ent _ _ hk
              obtain ⟨b, cs, et, rfl, hbb, hd⟩ := hoku
              rw [hp'] at hp
              unfold DenV at hp
              obtain ⟨b', hb', hpe⟩ := hp
              rw [hu] at hb'
              simp only [Option.some.injEq, Value.pointer.injEq, Addr.mk.injEq, and_true] at hb'
              subst hb'
              have hcl : cs.size = c.length := by rw [← hd.length]; simp
              refine core b o' cs et _ _ hpe hbb (by omega) hk rfl hu rfl rfl fun w' hw' hh => ?_
              refine ⟨b, _, et, rfl, hw', ?_⟩
              have := splice_den o' (hd.move (fun _ _ h => h) hh) (hcd.move (fun _ _ h => h) hh)
              simpa using this
            · exact absurd hwc (by simp)
          · exact absurd hwc (by simp)
        · rename_i k' n' o' hp'
          split at hwc
          · rename_i e' n c hk
            split at hwc
            · rename_i hb
              simp only [Option.some.injEq, Prod.mk.injEq] at hwc
              obtain ⟨rfl, rfl⟩ := hwc
              obtain ⟨u, hu, hoku, _⟩ := hat.real.ent _ _ hk
              rw [hp'] at hp
              unfold DenV at hp
              obtain ⟨b, q, n1, cap, hpe, hs'⟩ := hp
              unfold DenV at hs'
              rw [hu] at hs'
              obtain ⟨hue, _⟩ := hs'
              obtain rfl := Option.some.inj hue
              rcases hoku with ⟨xs, i, hi, hown, hd⟩ | ⟨A, he, rfl, rfl⟩
              · rcases hown.2 with ⟨he, hn⟩ | ⟨g, cap', cur, he, hg0, hg, hnc, hm, hsz', ht⟩
                · simp at he
                · simp only [Value.slice.injEq, Option.some.injEq, Addr.mk.injEq, and_true] at he
                  obtain ⟨⟨rfl, rfl⟩, rfl, rfl⟩ := he
                  have hxl : xs.length = n1 * i.size := hown.1
                  have hcl : c.length = n1 * i.size := by rw [← hd.length, hxl]
                  by_cases hcap : cap = 0
                  · -- nothing fits in
                    subst hcap
                    obtain rfl : n1 = 0 := by omega
                    have hI0 : (cellsV (ρ x)).length = 0 := by omega
                    have hxs : (cellsV (ρ x)) = [] := List.eq_nil_of_length_eq_zero hI0
                    have hv0 : (a.eval x).cells = #[] := by apply Array.eq_empty_of_size_eq_zero; rw [hsz, ← hlen, hI0]
                    have hrun : (storeVar t ⟨b, 0 + o', none⟩ (a.eval x)).run P w = .ok () w := by
                      simp only [storeVar, Sem.run_bind, run_sizeOf_digest hI, Result.andThen_ok, hv0]
                      rw [if_neg (by simp; omega)]
                      simp [storeCells]
                    unfold Oper.wp execOp
                    simp only [ho, hpe, Instr.storeAt, Instr.sureAddr, Sem.run_bind, Sem.run_pure, Result.andThen_ok, hrun]
                    rw [Oper.upon_skip]
                    rw [app_up1, app_noUp]
                    have hsame : setH k' (some (.row e' 0 (splice c o' (cellsV (ρ x))))) Hc = Hc := by
                      funext j
                      unfold setH
                      by_cases hj : j = k'
                      · rw [if_pos hj, hj, hk, hxs]; simp [splice]
                      · rw [if_neg hj]
                    rw [hsame]
                    exact hat.step hdst (fun _ _ h => h) (fun _ _ => rfl) hat.keep (Holds.refl F w) hat.real (by unfold DenV; trivial) (Chg.refl (fun _ => False) w) (fun _ h => h.elim) hat.reach
                  · have hle : n1 * i.size ≤ cap * i.size := Nat.mul_le_mul_right _ hnc
                    refine core b (0 + o') cur _ _ _ hpe hg (by omega) hk rfl hu (by simp [blkOf, hcap]) rfl fun w' hw' hh => ?_
                    left
                    have hd' := splice_den o' (hd.move (fun _ _ h => h) hh) (hcd.move (fun _ _ h => h) hh)
                    refine ⟨_, i, hi, ⟨?_, .inr ⟨b, cap, _, rfl, Nat.zero_le _, hw', hnc, hm, ?_, ?_⟩⟩, hd'⟩
                    · rw [hd'.length]
                      simp only [splice, List.length_append, List.length_take, List.length_drop]
                      omega
                    · simp
                      rw [hsz, ← hlen]
                      omega
                    · rw [← ht]
                      simp only [Nat.zero_add]
                      have hvl : (a.eval x).cells.toList.length = (cellsV (ρ x)).length := hcd.length
                      have hvs : (a.eval x).cells.size = (cellsV (ρ x)).length := by simpa using hvl
                      rw [List.take_append, List.take_append, List.take_take, List.length_append, List.length_take, hvl]
                      rw [show min (n1 * i.size) o' = min o' (n1 * i.size) by omega, List.take_take]
                      rw [List.take_of_length_le (i := n1 * i.size - min o' cur.toList.length) (by simp; omega)]
                      rw [hvs, List.drop_take]
                      congr 2
                      simp
                      omega
              · simp only [Value.slice.injEq] at he
                obtain ⟨rfl, rfl, rfl⟩ := he
                have hI0 : (cellsV (ρ x)).length = 0 := by simp only [List.length_nil] at hb; omega
                have hxs : (cellsV (ρ x)) = [] := List.eq_nil_of_length_eq_zero hI0
                have hv0 : (a.eval x).cells = #[] := by apply Array.eq_empty_of_size_eq_zero; rw [hsz, ← hlen, hI0]
                have hrun : (storeVar t ⟨b, q + o', none⟩ (a.eval x)).run P w = .ok () w := by
                  simp only [storeVar, Sem.run_bind, run_sizeOf_digest hI, Result.andThen_ok, hv0]
                  rw [if_neg (by simp; omega)]
                  simp [storeCells]
                unfold Oper.wp execOp
                simp only [ho, hpe, Instr.storeAt, Instr.sureAddr, Sem.run_bind, Sem.run_pure, Result.andThen_ok, hrun]
                rw [Oper.upon_skip]
                rw [app_up1, app_noUp]
                have hsame : setH k' (some (.row e' 0 (splice [] o' (cellsV (ρ x))))) Hc = Hc := by
                  funext j
                  unfold setH
                  by_cases hj : j = k'
                  · rw [if_pos hj, hj, hk, hxs]; simp [splice]
                  · rw [if_neg hj]
                rw [hsame]
                exact hat.step hdst (fun _ _ h => h) (fun _ _ => rfl) hat.keep (Holds.refl F w) hat.real (by unfold DenV; trivial) (Chg.refl (fun _ => False) w) (fun _ h => h.elim) hat.reach
            · exact absurd hwc (by simp)
          · exact absurd hwc (by simp)
        · exact absurd hwc (by simp)
    · exact h.elim
  · exact h.elim
end
end Go.Proofs.YtjknjekemolndaaGreat.Abs
