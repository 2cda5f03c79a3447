/- Texts of the abs road (plain values, what code does to them, and the contracts of the functions that the law reaches). No condition. -/
import Derived.Test.YtjknjekemolndaaGreatG2FnExactNeatRegion
import Derived.Great.BuildSlice
namespace Go.Proofs.YtjknjekemolndaaGreat.Abs
open Go Go.RowKit
set_option linter.unusedVariables false
set_option linter.unusedSimpArgs false
def repV (n : Nat) (zc : List V) : List V := (List.range (n * zc.length)).map fun j => zc.getD (j % zc.length) .unk
theorem repV_0 (zc : List V) : repV 0 zc = [] := by simp [repV]
def asD : V → Option D
  | .d x => some x
  | .nil => some (.sl 0 [])
  | _ => none
def asDs : List V → Option (List D)
  | [] => some []
  | v :: r => match asD v, asDs r with
    | some x, some xs => some (x :: xs)
    | _, _ => none
section
variable {P : Program} {N : Nat} {w0 : Base} {F0 E0 fr : Nat → Prop} {T : Nat → V} {H : Store} {a : Act} {w : World} {M : Key → Option Value} {F : Nat → Prop}
theorem asDs_map (cs : List D) : asDs (cs.map V.d) = some cs := by
  induction cs with
  | nil => rfl
  | cons x r ih => simp [asDs, asD, ih]
theorem asD_den {v : V} {x : D} {u : Value} (h : asD v = some x) (hv : DenV M F w v u) : DenD F w x u := by
  cases v with
  | d y => obtain rfl : y = x := Option.some.inj h; unfold DenV at hv; exact hv
  | nil =>
    obtain rfl : D.sl 0 [] = x := Option.some.inj h
    unfold DenV at hv
    obtain ⟨A, rfl⟩ := hv
    unfold DenD
    exact ⟨A, 0, rfl, Nat.le_refl _, .inl rfl, .inl rfl⟩
  | _ => simp [asD] at h
theorem asDs_den : ∀ {c : List V} {cs : List D} {us : List Value}, asDs c = some cs → DenVs M F w c us → DenVs M F w (cs.map V.d) us
  | [], cs, us, h, hd => by simp [asDs] at h; subst h; exact hd
  | v :: r, cs, us, h, hd => by
    simp only [asDs] at h
    cases hx : asD v with
    | none => simp [hx] at h
    | some x =>
      cases hr : asDs r with
      | none => simp [hx, hr] at h
      | some xs =>
        simp [hx, hr] at h; subst h
        unfold DenVs at hd
        obtain ⟨u, us', rfl, hu, hus⟩ := hd
        exact DenVs.cons (by unfold DenV; exact asD_den hx hu) (asDs_den hr hus)
theorem EntOk.blk_lt {e : Ent} {u : Value} {b : Nat} (h : EntOk P M F w e u) (hl : e.live = true) (hb : blkOf u = some b) : b < w.heap.size := by
  cases e with
  | box c =>
    obtain ⟨b', cs, t, rfl, hc, _⟩ := h
    simp [blkOf] at hb; subst hb
    exact block_lt hc
  | row e n c =>
    rcases h with ⟨xs, i, hi, hown, hd⟩ | ⟨A, rfl, _⟩
    · rcases hown.2 with ⟨rfl, rfl⟩ | ⟨g, cap, cur, rfl, hg, hc, _⟩
      · simp [blkOf] at hb
      · simp only [blkOf] at hb
        split at hb
        · exact absurd hb (by simp)
        · simp at hb; subst hb; exact block_lt hc
    · cases A <;> simp [blkOf] at hb
  | fz n c => simp [Ent.live] at hl
theorem At.fresh (hat : At P N w0 F0 E0 fr T H a w M F) {s : Nat} (hs : fr s) {dst : Option Nat} {v : V} {u : Value} {w' : World} {e : Ent} (hd : ∀ d, dst = some d → d < N)
    (hc : Chg (fun _ => False) w w') (hu : ∀ b, blkOf u = some b → w.heap.size ≤ b)
    (hok : ∀ M' F', (∀ k x, M k = some x → M' k = some x) → M' (s, 0) = some u → Holds F F' w w' → EntOk P M' F' w' e u ∧ DenV M' F' w' v u) :
    Inv P N w0 F0 E0 (fun j => fr j ∧ j ≠ s) (putT dst v T) (setH (s, 0) (some e) H) (a.put dst u) w' := by
  have hMs : M (s, 0) = none := hat.free (s, 0) hs
  let M' : Key → Option Value := fun k => if k = (s, 0) then some u else M k
  let F' : Nat → Prop := fun b => F b ∨ blkOf u = some b
  have hM : ∀ k x, M k = some x → M' k = some x := by
    intro k x hk
    show (if k = (s, 0) then some u else M k) = some x
    rw [if_neg (fun e => by subst e; rw [hMs] at hk; exact absurd hk (by simp))]
    exact hk
  have hMk : M' (s, 0) = some u := by show (if (s, 0) = (s, 0) then some u else M (s, 0)) = some u; rw [if_pos rfl]
  have hh : Holds F F' w w' := ⟨fun b hb => hb.imp id (fun h => hu b h), fun b _ hl => hc.block b (fun h => h) hl⟩
  obtain ⟨h1, h2⟩ := hok M' F' hM hMk hh
  refine hat.step (M' := M') (F' := F') hd hM (fun k hk => ?_) (fun b h h' => .inl (hat.keep b h h')) hh ?_ h2 hc (fun _ h => h.elim) ?_
  · show (if k = (s, 0) then some u else M k) = M k
    rw [if_neg (fun e => hk (by rw [e]))]
  · refine hat.real.set hM hh (fun b h => .inl h) (fun j e hj h => h) (fun j e1 u1 b hj h hl hm hb => ?_) hMk h1 (fun _ b hb => .inr hb) (fun j e1 u1 b hj h hl _ hm hb hb' => ?_)
    · obtain ⟨x, hx, hox, _⟩ := hat.real.ent j e1 h
      rw [hm] at hx; obtain rfl := Option.some.inj hx
      exact hc.block b (fun h => h) (hox.blk_lt hl hb)
    · obtain ⟨x, hx, hox, _⟩ := hat.real.ent j e1 h
      rw [hm] at hx; obtain rfl := Option.some.inj hx
      have := hox.blk_lt hl hb
      have := hu b hb'
      omega
  · intro k e1 u1 b hk hl hm hb
    simp only [setH] at hk
    by_cases hks : k = (s, 0)
    · subst hks
      rw [hMk] at hm; obtain rfl := Option.some.inj hm
      right
      have := hu b hb
      have := hat.chg.size
      omega
    · rw [if_neg hks] at hk
      have hm' : M k = some u1 := by
        have : M' k = M k := by show (if k = (s, 0) then some u else M k) = M k; rw [if_neg hks]
        rw [← this]; exact hm
      exact hat.reach k e1 u1 b hk hl hm' hb
theorem up1_ups {s : Nat} {e : Option Ent} : ∀ k : Key, up1 (s, 0) e noUp k ≠ none → k.1 = s ∨ k ∈ ([] : List Key) := by
  intro k hk
  left
  simp only [up1] at hk
  by_cases h : k = (s, 0)
  · rw [h]
  · rw [if_neg h] at hk; exact absurd rfl hk
def allocS (P : Program) (s : Nat) (t : TypeId) (K : Eff → Prop) : Prop := match digest P t with
  | some I => K ⟨.ptr (s, 0) 0, [], [], up1 (s, 0) (some (.box I.zc)) noUp⟩
  | none => False
def boxS (s : Nat) (x : V) (K : Eff → Prop) : Prop := okC x = true ∧ K ⟨.ptr (s, 0) 0, [], [], up1 (s, 0) (some (.box (cellsV x))) noUp⟩
theorem boxed {o : Oper} {E : Eff} {nx s : Nat} {ρ : Operand → V} {c : List V} (hE : E = ⟨.ptr (s, 0) 0, [], [], up1 (s, 0) (some (.box c)) noUp⟩)
    (h : ∀ {M : Key → Option Value} {F : Nat → Prop} {a : Act} {w : World}, (∀ x ∈ o.op.operands, DenV M F w (ρ x) (a.eval x)) → ∃ (cs : Array Value) (t : TypeId), (execOp a.eval o).run P w = .ok (.value (.pointer (some ⟨w.heap.size, 0, none⟩))) (w.alloc (.cells cs t)) ∧ DenVs M F w c cs.toList) :
    OpOk P N nx s H o ρ E := by
  subst hE
  refine ⟨up1_ups, fun k hk => absurd hk (by simp), fun k hk => absurd hk (by simp), fun {w0 F0 E0 fr T Hc a w M F} hs hat hρ _ hd Q => ?_⟩
  obtain ⟨cs, t, hr, hden⟩ := h hρ
  unfold Oper.wp
  rw [hr, Oper.upon_value, app_up1, app_noUp]
  refine hat.fresh hs hd (Chg.alloc _ w _) (fun b hb => by simp [blkOf] at hb; omega) fun M' F' hM hk hh => ⟨⟨w.heap.size, cs, t, rfl, heap_alloc_new w _, hden.move hM hh⟩, ?_⟩
  unfold DenV
  exact ⟨w.heap.size, hk, rfl⟩
theorem allocS_sound {nx s : Nat} {o : Oper} {ρ : Operand → V} {t : TypeId} (ho : o.op = .alloc t) {K : Eff → Prop} (h : allocS P s t K) : ∃ E, K E ∧ OpOk P N nx s H o ρ E := by
  unfold allocS at h
  split at h
  · rename_i I hI
    refine ⟨_, h, boxed (c := I.zc) rfl fun {M F a w} _ => ?_⟩
    obtain ⟨i, z, hi, hz, hzc⟩ := digest_zero hI
    refine ⟨z.cells, t, ?_, by rw [hzc]; exact absVs_den _⟩
    simp [execOp, ho, Instr.alloc, zeroValue, typeInfo, hi, hz, newVar, newRow]
  · exact h.elim
theorem boxS_sound {nx s : Nat} {o : Oper} {ρ : Operand → V} {t : TypeId} {x : Operand} (ho : o.op = .box t x) {K : Eff → Prop} (h : boxS s (ρ x) K) : ∃ E, K E ∧ OpOk P N nx s H o ρ E := by
  refine ⟨_, h.2, boxed (c := cellsV (ρ x)) rfl fun {M F a w} hρ => ?_⟩
  refine ⟨(a.eval x).cells, t, ?_, cellsV_den (hρ x (by simp [ho, Op.operands])) h.1⟩
  simp [execOp, ho, Instr.box, newVar, newRow]
theorem repV_den {zc : List V} {z : Value} (hz : DenVs M F w zc z.cells.toList) (n : Nat) : DenVs M F w (repV n zc) (madeCells z.cells (n * zc.length)).toList := by
  have hsz : z.cells.size = zc.length := by rw [← hz.length]; simp
  refine DenVs.of_get (by simp [repV, madeCells]) fun j x u hx hu => ?_
  simp only [repV, List.getElem?_map] at hx
  simp only [madeCells, Array.toList_map, List.getElem?_map] at hu
  have hj : j < n * zc.length := by
    rcases Nat.lt_or_ge j (n * zc.length) with h | h
    · exact h
    · rw [List.getElem?_eq_none (by simpa using h)] at hx; simp at hx
  rw [List.getElem?_range hj] at hx
  simp [hj] at hx hu
  subst hx
  have hp : 0 < zc.length := by
    rcases Nat.eq_zero_or_pos zc.length with h | h
    · rw [h] at hj; omega
    · exact h
  have hm : j % zc.length < zc.length := Nat.mod_lt _ hp
  obtain ⟨v, hv, hd⟩ := hz.get (j := j % zc.length) (List.getElem?_eq_getElem hm)
  rw [List.getElem?_eq_getElem hm]
  simp only [Option.getD_some]
  rw [← hu, hsz]
  have hm' : j % zc.length < z.cells.size := by omega
  have hv' : z.cells[j % zc.length]? = some v := by simpa using hv
  rw [Array.getElem?_eq_getElem hm'] at hv'
  rw [getElem!_pos z.cells (j % zc.length) hm']
  obtain rfl := Option.some.inj hv'
  exact hd
def buildS (P : Program) (own : Bool) (s : Nat) (t : TypeId) (len : Nat) (ps : List (Nat × V)) (K : Eff → Prop) : Prop := match digest P t with
  | some ⟨.slice e, _, _, _⟩ => match digest P e with
    | some I => if len = 0 then ps = [] ∧ K ⟨.nil, [], [], noUp⟩ else (len * I.size ≤ 16777216 ∧ 0 < I.size ∧ I.zc.length = I.size) ∧ match fillR I.size (repV len I.zc) ps with
      | some c => match (if own = true then none else asDs c) with
        | some cs => K ⟨.d (.sl len cs), [], [], noUp⟩
        | none => K ⟨.ref (s, 0) len, [], [], up1 (s, 0) (some (.row e len c)) noUp⟩
      | none => False
    | none => False
  | _ => False
theorem row_fresh (hat : At P N w0 F0 E0 fr T H a w M F) {s : Nat} (hs : fr s) {dst : Option Nat} (hd : ∀ d, dst = some d → d < N) {e : TypeId} {n : Nat} {c : List V} {cells : Array Value} {i : TypeInfo}
    (hi : P.info? e = some i) (hc : DenVs M F w c cells.toList) (hl : cells.size = n * i.size) (hn : n ≤ maxLen) :
    Inv P N w0 F0 E0 (fun j => fr j ∧ j ≠ s) (putT dst (.ref (s, 0) n) T) (setH (s, 0) (some (.row e n c)) H) (a.put dst (.slice (some ⟨w.heap.size, 0, none⟩) n n)) (w.alloc (.cells cells e)) := by
  refine hat.fresh hs hd (Chg.alloc _ w _) (fun b hb => ?_) fun M' F' hM hk hh => ⟨.inl ⟨cells.toList, i, hi, World.ownsRow_lit w cells n (Nat.zero_le _) hn hl, hc.move hM hh⟩, ?_⟩
  · simp only [blkOf] at hb
    split at hb
    · exact absurd hb (by simp)
    · simp at hb; omega
  · unfold DenV
    exact ⟨hk, _, _, rfl, .inr ⟨_, _, rfl⟩, by omega⟩
theorem row_fresh0 (hat : At P N w0 F0 E0 fr T H a w M F) {s : Nat} (hs : fr s) {dst : Option Nat} (hd : ∀ d, dst = some d → d < N) {e : TypeId} {m : Nat} {cells : Array Value} {i : TypeInfo}
    (hi : P.info? e = some i) (hl : cells.size = m * i.size) (hn : m ≤ maxLen) :
    Inv P N w0 F0 E0 (fun j => fr j ∧ j ≠ s) (putT dst (.ref (s, 0) 0) T) (setH (s, 0) (some (.row e 0 [])) H) (a.put dst (.slice (some ⟨w.heap.size, 0, none⟩) 0 m)) (w.alloc (.cells cells e)) := by
  refine hat.fresh hs hd (Chg.alloc _ w _) (fun b hb => ?_) fun M' F' hM hk hh => ⟨.inl ⟨[], i, hi, ⟨by simp, .inr ⟨w.heap.size, m, cells, rfl, Nat.zero_le _, heap_alloc_new w _, Nat.zero_le _, hn, hl, by simp⟩⟩, DenVs.nil⟩, ?_⟩
  · simp only [blkOf] at hb
    split at hb
    · exact absurd hb (by simp)
    · simp at hb; omega
  · unfold DenV
    exact ⟨hk, _, _, rfl, .inr ⟨_, _, rfl⟩, by omega⟩
theorem buildS_sound {nx s : Nat} {o : Oper} {ρ : Operand → V} {t : TypeId} {len : Nat} {ps : Array (Nat × Operand)} {own : Bool} (ho : o.op = .buildSlice t len ps) {K : Eff → Prop}
    (h : buildS P own s t len (ps.toList.map fun p => (p.1, ρ p.2)) K) : ∃ E, K E ∧ OpOk P N nx s H o ρ E := by
  unfold buildS at h
  split at h
  · rename_i e s0 b0 zc0 hg
    split at h
    · rename_i I hI
      have hu := digest_slice hg
      obtain ⟨i, z, hi, hz, hzc⟩ := digest_zero hI
      obtain ⟨i', hi', hsz, hby⟩ := digest_size hI
      rw [hi] at hi'; obtain rfl := Option.some.inj hi'
      split at h
      · rename_i h0
        subst h0
        refine ⟨_, h.2, fun k hk => absurd rfl hk, fun k hk => absurd hk (by simp), fun k hk => absurd hk (by simp), fun {w0 F0 E0 fr T Hc a w M F} hs hat hρ _ hd Q => ?_⟩
        have hps : ps = #[] := by have := h.1; simp at this; exact this
        have hr : (execOp a.eval o).run P w = .ok (.value (.slice (some ⟨w.heap.size, 0, none⟩) 0 0)) (w.alloc (.cells #[] e)) := by
          simp [execOp, ho, hps, Instr.buildSlice, run_underlying hu, sizeOf, typeInfo, hi, Instr.fill, newRow, Array.range_zero']
        unfold Oper.wp
        rw [hr, Oper.upon_value]
        exact hat.step hd (fun _ _ h => h) (fun _ _ => rfl) hat.keep ⟨fun _ h => .inl h, fun b _ hl => heap_alloc_old w _ b hl⟩
          (hat.real.sub (fun _ _ h => h) |> fun hR => ⟨fun k e1 hk => by
            obtain ⟨x, hx, hox, hF⟩ := hR.ent k e1 hk
            exact ⟨x, hx, hox.move (fun _ _ h => h) ⟨fun _ h => .inl h, fun b _ hl => heap_alloc_old w _ b hl⟩ (fun hl b hb => heap_alloc_old w _ b (hox.blk_lt hl hb)), hF⟩, hR.inj⟩)
          (by unfold DenV; exact ⟨_, rfl⟩) (Chg.alloc (fun _ => False) w _) (fun _ h => h.elim) hat.reach
      · rename_i h0
        obtain ⟨⟨hb, hpos, hzl⟩, h⟩ := h
        split at h
        · rename_i c hf
          have hrun : ∀ {M : Key → Option Value} {F : Nat → Prop} {a : Act} {w : World}, (∀ x ∈ o.op.operands, DenV M F w (ρ x) (a.eval x)) → ∃ cells : Array Value, (execOp a.eval o).run P w = .ok (.value (.slice (some ⟨w.heap.size, 0, none⟩) len len)) (w.alloc (.cells cells e)) ∧ DenVs M F w c cells.toList ∧ cells.size = len * i.size := by
            intro M F a w hρ
            have hd0 : DenVs M F w (repV len I.zc) (madeCells z.cells (len * i.size)).toList := by
              have := repV_den (M := M) (F := F) (w := w) (zc := I.zc) (z := z) (by rw [hzc]; exact absVs_den _) len
              rw [hzl, ← hsz] at this; exact this
            obtain ⟨cells, hfill, hden⟩ := fillR_den (ρc := a.eval) hf hd0 (fun p hp => hρ p.2 (by simp [ho, Op.operands]; exact ⟨p.1, by simpa using hp⟩))
            have hcl : cells.size = len * i.size := by
              have h1 : cells.toList.length = c.length := hden.length
              have h2 : ∀ (ps : List (Nat × V)) (c0 c1 : List V), fillR I.size c0 ps = some c1 → c1.length = c0.length := by
                intro ps
                induction ps with
                | nil => intro c0 c1 h; simp [fillR] at h; rw [h]
                | cons p ps ih =>
                  intro c0 c1 h
                  obtain ⟨i0, v0⟩ := p
                  simp only [fillR] at h
                  split at h
                  · rename_i hc
                    rw [ih _ _ h]
                    simp only [splice, List.length_append, List.length_take, List.length_drop]
                    omega
                  · exact absurd h (by simp)
              have h3 := h2 _ _ _ hf
              simp only [Array.length_toList] at h1
              rw [h1, h3]
              simp [repV, hzl, hsz]
            refine ⟨cells, ?_, hden, hcl⟩
            have := run_buildSlice (P := P) w t e len (ps.map fun p => (p.1, a.eval p.2)) cells i z hu hi hz (by rw [hsz]; omega) (by rw [hsz]; exact Nat.ne_of_gt (Nat.mul_pos (by omega) hpos)) (by rw [Array.toList_map, hsz]; exact hsz ▸ hfill)
            simp only [execOp, ho, Sem.run_bind]
            rw [this]; rfl
          have hlen : len ≤ maxLen := by
            have : len * 1 ≤ len * I.size := Nat.mul_le_mul_left _ hpos
            simp only [maxLen]; omega
          split at h
          · rename_i cs hcs
            have hcs' : asDs c = some cs := by
              cases own <;> simp at hcs
              exact hcs
            refine ⟨_, h, fun k hk => absurd rfl hk, fun k hk => absurd hk (by simp), fun k hk => absurd hk (by simp), fun {w0 F0 E0 fr T Hc a w M F} hs hat hρ _ hd Q => ?_⟩
            obtain ⟨cells, hr, hden, hcl⟩ := hrun hρ
            unfold Oper.wp
            rw [hr, Oper.upon_value]
            have hF : ¬ (F w.heap.size ∧ True) ∨ True := .inr trivial
            let F' : Nat → Prop := fun b => F b ∧ b < w.heap.size
            have hh : Holds F F' w (w.alloc (.cells cells e)) := ⟨fun b hb => .inl hb.1, fun b _ hl => heap_alloc_old w _ b hl⟩
            refine hat.step (F' := F') hd (fun _ _ h => h) (fun _ _ => rfl) (fun b h1 h2 => ⟨hat.keep b h1 h2, Nat.lt_of_lt_of_le (hat.lt0 b h1) hat.chg.size⟩) hh ⟨fun k e1 hk => ?_, hat.real.inj⟩ ?_ (Chg.alloc (fun _ => False) w _) (fun _ h => h.elim) hat.reach
            · obtain ⟨x, hx, hox, hFx⟩ := hat.real.ent k e1 hk
              exact ⟨x, hx, hox.move (fun _ _ h => h) hh (fun hl b hb => heap_alloc_old w _ b (hox.blk_lt hl hb)), fun hl b hb => ⟨hFx hl b hb, hox.blk_lt hl hb⟩⟩
            · unfold DenV DenD
              refine ⟨_, _, rfl, Nat.le_refl _, .inr ⟨_, _, rfl⟩, .inr ⟨_, _, rfl, fun hb => absurd hb.2 (by omega), ?_⟩⟩
              exact DenDs.of_values (M := M) (rangeAt_row (heap_alloc_new w _)) ((asDs_den hcs' hden).move (fun _ _ h => h) hh)
          · refine ⟨_, h, up1_ups, fun k hk => absurd hk (by simp), fun k hk => absurd hk (by simp), fun {w0 F0 E0 fr T Hc a w M F} hs hat hρ _ hd Q => ?_⟩
            obtain ⟨cells, hr, hden, hcl⟩ := hrun hρ
            unfold Oper.wp
            rw [hr, Oper.upon_value, app_up1, app_noUp]
            exact row_fresh hat hs hd hi hden hcl hlen
        · exact h.elim
    · exact h.elim
  · exact h.elim
def makeS (P : Program) (s : Nat) (t : TypeId) (l c : V) (K : Eff → Prop) : Prop := match digest P t, l, c with
  | some ⟨.slice e, _, _, _⟩, .d (.int _ n), .d (.int _ m) => match digest P e with
    | some I => ((m = n ∨ (n = 0 ∧ 0 ≤ m)) ∧ 0 ≤ n ∧ I.bytes * m.toNat ≤ 281474976710656 ∧ m.toNat ≤ maxLen ∧ I.zc.length = I.size) ∧ K ⟨.ref (s, 0) n.toNat, [], [], up1 (s, 0) (some (.row e n.toNat (repV n.toNat I.zc))) noUp⟩
    | none => False
  | _, _, _ => False
theorem makeS_sound {nx s : Nat} {o : Oper} {ρ : Operand → V} {t : TypeId} {l c : Operand} (ho : o.op = .makeSlice t l c) {K : Eff → Prop} (h : makeS P s t (ρ l) (ρ c) K) : ∃ E, K E ∧ OpOk P N nx s H o ρ E := by
  unfold makeS at h
  split at h
  · rename_i e s0 b0 zc0 k1 n k2 m hg hl hc
    split at h
    · rename_i I hI
      obtain ⟨⟨hmn, hn, hb, hm, hzl⟩, h⟩ := h
      rcases hmn with hmn | ⟨rfl, hm0⟩
      rotate_left
      · have hu := digest_slice hg
        obtain ⟨i, z, hi, hz, hzc⟩ := digest_zero hI
        obtain ⟨i', hi', hsz, hby⟩ := digest_size hI
        rw [hi] at hi'; obtain rfl := Option.some.inj hi'
        refine ⟨_, h, up1_ups, fun k hk => absurd hk (by simp), fun k hk => absurd hk (by simp), fun {w0 F0 E0 fr T Hc a w M F} hs hat hρ _ hd Q => ?_⟩
        have h1 := hρ l (by simp [ho, Op.operands])
        have h2 := hρ c (by simp [ho, Op.operands])
        rw [hl] at h1; rw [hc] at h2
        have h3 := h1.int
        have h4 := h2.int
        have hnn : m = (m.toNat : Int) := by omega
        have hbb : (i.bytes : Int) * m ≤ 281474976710656 := by
          have h : ((I.bytes * m.toNat : Nat) : Int) ≤ 281474976710656 := by omega
          rw [Int.natCast_mul, ← hnn, ← hby] at h; exact h
        have hr := run_make (P := P) w t e i z hu hi hz k1 k2 0 m (Int.le_refl _) hm0 hbb (by unfold maxLen at hm; omega)
        have hr' : (execOp a.eval o).run P w = .ok (.value (.slice (some ⟨w.heap.size, 0, none⟩) 0 m.toNat)) (w.alloc (.cells (madeCells z.cells (m.toNat * i.size)) e)) := by
          simp only [execOp, ho, h3, h4, Sem.run_bind, hr]; rfl
        unfold Oper.wp
        rw [hr', Oper.upon_value, app_up1, app_noUp]
        have h9 := row_fresh0 hat hs hd hi (size_madeCells z.cells (m.toNat * i.size)) hm
        have e0 : repV (Int.toNat 0) I.zc = [] := repV_0 _
        rw [e0]
        exact h9
      obtain rfl : n = m := hmn.symm
      have hu := digest_slice hg
      obtain ⟨i, z, hi, hz, hzc⟩ := digest_zero hI
      obtain ⟨i', hi', hsz, hby⟩ := digest_size hI
      rw [hi] at hi'; obtain rfl := Option.some.inj hi'
      refine ⟨_, h, up1_ups, fun k hk => absurd hk (by simp), fun k hk => absurd hk (by simp), fun {w0 F0 E0 fr T Hc a w M F} hs hat hρ _ hd Q => ?_⟩
      have h1 := hρ l (by simp [ho, Op.operands])
      have h2 := hρ c (by simp [ho, Op.operands])
      rw [hl] at h1; rw [hc] at h2
      have h3 := h1.int
      have h4 := h2.int
      have hnn : n = (n.toNat : Int) := by omega
      have hbb : (i.bytes : Int) * n ≤ 281474976710656 := by
        have h : ((I.bytes * n.toNat : Nat) : Int) ≤ 281474976710656 := by omega
        rw [Int.natCast_mul, ← hnn, ← hby] at h; exact h
      have hr := run_make (P := P) w t e i z hu hi hz k1 k2 n n hn (Int.le_refl _) hbb (by unfold maxLen at hm; omega)
      have hr' : (execOp a.eval o).run P w = .ok (.value (.slice (some ⟨w.heap.size, 0, none⟩) n.toNat n.toNat)) (w.alloc (.cells (madeCells z.cells (n.toNat * i.size)) e)) := by
        simp only [execOp, ho, h3, h4, Sem.run_bind, hr]; rfl
      unfold Oper.wp
      rw [hr', Oper.upon_value, app_up1, app_noUp]
      refine row_fresh hat hs hd hi ?_ (size_madeCells _ _) hm
      have := repV_den (M := M) (F := F) (w := w) (zc := I.zc) (z := z) (by rw [hzc]; exact absVs_den _) n.toNat
      rw [hzl, ← hsz] at this; exact this
    · exact h.elim
  · exact h.elim
end
end Go.Proofs.YtjknjekemolndaaGreat.Abs
namespace Go.Proofs.YtjknjekemolndaaGreat.Abs
open Go Go.RowKit
set_option linter.unusedVariables false
set_option linter.unusedSimpArgs false
def newsOf (H : Store) (x : V) : Option (Nat × List V × List Key) := match x with
  | .d (.sl m c) => some (m, c.map V.d, [])
  | .nil => some (0, [], [])
  | .ref k n => match H k with
    | some (.row _ m c) => if m = n then some (m, c, [k]) else none
    | some (.fz m c) => if m = n then some (m, c.map V.d, [k]) else none
    | _ => none
  | .sub k sz off n => match H k with
    | some (.row _ _ c) => some (n, (c.drop (off * sz)).take (n * sz), [k])
    | _ => none
  | _ => none
def baseOf (H : Store) (b : V) (e : TypeId) : Option (Option Key × Nat × List V) := match b with
  | .nil => some (none, 0, [])
  | .ref k n => match H k with
    | some (.row e' m c) => if e' = e ∧ m = n then some (some k, n, c) else none
    | _ => none
  | _ => none
def dropK (kb : Option Key) (H : Store) : Store := match kb with
  | some k => setH k none H
  | none => H
def upApp (s : Nat) (e : TypeId) (n : Nat) (c : List V) (kb : Option Key) : Key → Option (Option Ent) := up1 (s, 0) (some (.row e n c)) (match kb with
  | some k => up1 k none noUp
  | none => noUp)
def appendS (P : Program) (H : Store) (s : Nat) (t : TypeId) (b x : V) (K : Eff → Prop) : Prop := match digest P t with
  | some ⟨.slice e, _, _, _⟩ => match digest P e, baseOf H b e, newsOf H x with
    | some I, some (kb, n, c), some (m, c2, ks) => (0 < I.size ∧ c2.length = m * I.size ∧ c2.all V.one = true ∧ (n + m) * I.bytes ≤ 140737488355328 ∧ n + m ≤ maxLen ∧ I.zc.length = I.size) ∧
      K ⟨.ref (s, 0) (n + m), kb.toList ++ ks, kb.toList, upApp s e (n + m) (c ++ c2) kb⟩
    | _, _, _ => False
  | _ => False
section
variable {P : Program} {N : Nat} {w0 : Base} {F0 E0 fr : Nat → Prop} {T : Nat → V} {H : Store} {a : Act} {w : World} {M : Key → Option Value} {F : Nat → Prop}
theorem newsOf_den {x : V} {m : Nat} {c : List V} {ks : List Key} {u : Value} (h : newsOf H x = some (m, c, ks)) (hR : Real P M F w H) (hx : DenV M F w x u) :
    ∃ A cap, ∃ news : List Value, u = .slice A m cap ∧ DenVs M F w c news ∧ ((∃ ad, A = some ad ∧ ∀ j v, news[j]? = some v → w.cell? (ad.add j) = some v) ∨ (m = 0 ∧ (c ≠ [] → ∃ ad, A = some ad ∧ ∀ j v, news[j]? = some v → w.cell? (ad.add j) = some v))) := by
  have hsl : ∀ {n cap : Nat} {A : Option Addr} {cd : List D}, (n = 0 ∨ ∃ b o, A = some ⟨b, o, none⟩) → (cd = [] ∨ ∃ b o, A = some ⟨b, o, none⟩ ∧ ¬ F b ∧ DenDs F w cd b o) →
      ∃ news : List Value, DenVs M F w (cd.map V.d) news ∧ ((∃ ad, A = some ad ∧ ∀ j v, news[j]? = some v → w.cell? (ad.add j) = some v) ∨ (n = 0 ∧ (cd.map V.d ≠ [] → ∃ ad, A = some ad ∧ ∀ j v, news[j]? = some v → w.cell? (ad.add j) = some v))) := by
    intro n cap A cd hz hc
    rcases hc with rfl | ⟨b, o, rfl, _, hd⟩
    · refine ⟨[], DenVs.nil, ?_⟩
      rcases hz with hz | ⟨b, o, rfl⟩
      · exact .inr ⟨hz, fun h => absurd rfl h⟩
      · exact .inl ⟨_, rfl, fun j v hv => by simp at hv⟩
    · obtain ⟨us, h1, h2⟩ := DenDs.values (M := M) hd
      exact ⟨us, h2, .inl ⟨_, rfl, fun j v hv => by rw [Addr.add_mid]; exact h1 j v hv⟩⟩
  unfold newsOf at h
  split at h
  · rename_i n cd
    simp only [Option.some.injEq, Prod.mk.injEq] at h
    obtain ⟨rfl, rfl, rfl⟩ := h
    unfold DenV DenD at hx
    obtain ⟨A, cap, rfl, _, hz, hc⟩ := hx
    obtain ⟨news, h1, h2⟩ := hsl (cap := cap) hz hc
    exact ⟨A, cap, news, rfl, h1, h2⟩
  · simp only [Option.some.injEq, Prod.mk.injEq] at h
    obtain ⟨rfl, rfl, rfl⟩ := h
    unfold DenV at hx
    obtain ⟨A, rfl⟩ := hx
    exact ⟨A, 0, [], rfl, DenVs.nil, .inr ⟨rfl, fun h => absurd rfl h⟩⟩
  · rename_i k n
    unfold DenV at hx
    obtain ⟨hMk, A, cap, rfl, hz⟩ := hx
    split at h
    · rename_i e m' c' hk
      split at h
      · rename_i hmn
        simp only [Option.some.injEq, Prod.mk.injEq] at h
        obtain ⟨rfl, rfl, rfl⟩ := h
        obtain ⟨v, hv, hok, _⟩ := hR.ent _ _ hk
        rw [hMk] at hv
        obtain rfl := Option.some.inj hv
        subst hmn
        rcases hok with ⟨xs, i, _, hown, hd⟩ | ⟨A', he, rfl, rfl⟩
        · refine ⟨A, cap, xs, rfl, hd, ?_⟩
          rcases hown.2 with ⟨he, hn⟩ | ⟨g, cap', cur, he, _, hg, _, _, _, ht⟩
          · right
            refine ⟨hn, fun hne => ?_⟩
            have h1 : xs.length = 0 := by rw [hown.1, hn]; simp
            exact absurd (List.eq_nil_of_length_eq_zero (by rw [← hd.length, h1])) hne
          · left
            simp only [Value.slice.injEq] at he
            refine ⟨⟨g, 0, none⟩, he.1, fun j v hv => ?_⟩
            exact hown.cells (g := g) (by rw [he.1]; rfl) j v hv
        · exact ⟨A, cap, [], rfl, DenVs.nil, .inr ⟨rfl, fun h => absurd rfl h⟩⟩
      · exact absurd h (by simp)
    · rename_i m' c' hk
      split at h
      · rename_i hmn
        simp only [Option.some.injEq, Prod.mk.injEq] at h
        obtain ⟨rfl, rfl, rfl⟩ := h
        obtain ⟨v, hv, hok, _⟩ := hR.ent _ _ hk
        rw [hMk] at hv
        obtain rfl := Option.some.inj hv
        subst hmn
        unfold EntOk DenD at hok
        obtain ⟨A', cap', he, _, hz', hc⟩ := hok
        simp only [Value.slice.injEq] at he
        obtain ⟨rfl, _, rfl⟩ := he
        obtain ⟨news, h1, h2⟩ := hsl (cap := cap) hz' hc
        exact ⟨A, cap, news, rfl, h1, h2⟩
      · exact absurd h (by simp)
    · exact absurd h (by simp)
  · rename_i k sz off n
    unfold DenV at hx
    obtain ⟨A0, n0, cap0, A, cap, hMk, hle, rfl, hnc, hz⟩ := hx
    split at h
    · rename_i e m' c' hk
      simp only [Option.some.injEq, Prod.mk.injEq] at h
      obtain ⟨rfl, rfl, rfl⟩ := h
      obtain ⟨v, hv, hok, _⟩ := hR.ent _ _ hk
      rw [hMk] at hv
      obtain rfl := Option.some.inj hv
      by_cases hn0 : n = 0
      · subst hn0
        rw [Nat.zero_mul, List.take_zero]
        exact ⟨A, cap, [], rfl, DenVs.nil, .inr ⟨rfl, fun h => absurd rfl h⟩⟩
      · rcases hz with hz | ⟨b, o, rfl, rfl⟩
        · exact absurd hz hn0
        · rcases hok with ⟨xs, i, _, hown, hd⟩ | ⟨A', he, h1, _⟩
          · rcases hown.2 with ⟨he, hn⟩ | ⟨g, cap', cur, he, _, hg, _, _, _, ht⟩
            · simp at he
            · have he' := he
              simp only [Value.slice.injEq, Option.some.injEq, Addr.mk.injEq] at he'
              obtain ⟨⟨rfl, rfl, _⟩, _, _⟩ := he'
              refine ⟨_, cap, (xs.drop (off * sz)).take (n * sz), rfl, (hd.drop _).take _, .inl ⟨_, rfl, fun j v hv => ?_⟩⟩
              have hv' : xs[off * sz + j]? = some v := by
                rw [List.getElem?_take] at hv
                split at hv
                · rw [List.getElem?_drop] at hv; exact hv
                · cases hv
              have := hown.cells (g := b) rfl _ v hv'
              rw [Addr.add_mid] at this ⊢
              rw [Nat.add_assoc]
              exact this
          · simp only [Value.slice.injEq] at he
            omega
    · exact absurd h (by simp)
  · exact absurd h (by simp)
theorem run_append0 (w : World) (t ty e : TypeId) (i : TypeInfo) (z : Value) (ht : P.underlying t = some (.slice e)) (hi : P.info? e = some i) (hz : i.zero = some z) (A : Option Addr)
    (ad : Addr) (n c : Nat) (news : List Value) (hl : news.length = n * i.size) (hnews : ∀ j v, news[j]? = some v → w.cell? (ad.add j) = some v)
    (h0 : 0 < n) (h63 : (n : Int) ≤ 9223372036854775807) (h48 : n * i.bytes ≤ 281474976710656) :
    (Builtin.append_ #[t, t] ty #[.slice A 0 0, .slice (some ad) n c]).run P w =
      .ok (.slice (some ⟨w.heap.size, 0, none⟩) n (grownCap w n 0 e)) (w.drew.alloc (.cells (news.toArray ++ Builtin.zeroCells z.cells (grownCap w n 0 e - n)) e)) := by
  have hn : n ≠ 0 := by omega
  have h63' : ¬ (9223372036854775807 < (n : Int)) := by omega
  have h48' : ¬ (281474976710656 < Builtin.nextslicecap n 0 * i.bytes) := by rw [nextslicecap_zero h0]; omega
  have hf := run_firstCells_some (P := P) w.drew i.size n ad n c news hl (by simpa using hnews)
  have h0c : ∀ w : World, (Builtin.firstCells i.size 0 (.slice A 0 0)).run P w = .ok #[] w := by intro w; cases A <;> simp [Builtin.firstCells, loadCells, loadCellsFrom]
  simp [Builtin.append_, run_underlying ht, sizeOf, typeInfo, zeroValue, hi, hz, Builtin.lenOf, hn, h63', h48', Question.forced, h0c, hf, newRow, grownCap]
theorem run_append_empty (w : World) (t ty e : TypeId) (i : TypeInfo) (ht : P.underlying t = some (.slice e)) (hi : P.info? e = some i) (A A' : Option Addr) (n cap c : Nat) (hn : n ≤ cap) :
    (Builtin.append_ #[t, t] ty #[.slice A n cap, .slice A' 0 c]).run P w = .ok (.slice A n cap) w := by
  cases A <;> cases A' <;> simp [Builtin.append_, run_underlying ht, sizeOf, typeInfo, hi, Builtin.lenOf, Builtin.firstCells, loadCells, loadCellsFrom, storeCells, hn]
theorem append_drawn (w : World) (base : Nat) (t ty e : TypeId) (i : TypeInfo) (z : Value) (size bytes : Nat) (ht : P.underlying t = some (.slice e)) (hi : P.info? e = some i) (hz : i.zero = some z)
    (hsize : i.size = size) (hby : i.bytes = bytes) (hzs : z.cells.size = size) (hsz : 0 < size) (v : Value) (n : Nat) (xs : List Value) (hown : w.ownsRow base e size v n xs)
    (a : Addr) (m c : Nat) (news : List Value) (hl : news.length = m * size) (hnews : ∀ j u, news[j]? = some u → w.cell? (a.add j) = some u) (h1 : ∀ u ∈ news, u.oneCell' = true)
    (h63 : n + m ≤ maxLen) (hbytes : (n + m) * bytes ≤ 140737488355328) (hbase : base ≤ w.heap.size) {v' : Value} {w' : World} (hr : (Builtin.append_ #[t, t] ty #[v, .slice (some a) m c]).run P w = .ok v' w') : w.drawn ≤ w'.drawn := by
  subst hsize
  subst hby
  have hsmall : n + m ≤ 9223372036854775807 := by simp only [maxLen] at h63; omega
  have two : ∀ {x : Result Value} {u : Value} {W : World}, x = .ok u W → x = .ok v' w' → w.drawn ≤ W.drawn → w.drawn ≤ w'.drawn := fun h h' hW => by
    rw [h] at h'
    injection h' with _ h2
    rw [← h2]; exact hW
  rcases hown.2 with ⟨rfl, rfl⟩ | ⟨g, cap, cur, rfl, hbg, hg, hnc, hcm, hcs, htake⟩
  · by_cases hm : m = 0
    · subst hm
      have hn : news = [] := List.eq_nil_of_length_eq_zero (by simpa using hl)
      subst hn
      refine two (u := .slice none 0 0) (W := w) ?_ hr (Nat.le_refl _)
      simp [Builtin.append_, run_underlying ht, sizeOf, typeInfo, hi, Builtin.lenOf, Builtin.firstCells, loadCells, loadCellsFrom]
    · exact two (run_append_nil (P := P) w t ty e i z ht hi hz a m c news hl hnews (by omega) (by omega) (by have hb := hbytes; simp only [Nat.zero_add] at hb; omega)) hr (Nat.le_succ _)
  · by_cases hroom : n + m ≤ cap
    · have hfit : n * i.size + news.length ≤ cur.size := by rw [hl, hcs, ← Nat.add_mul]; exact Nat.mul_le_mul_right _ hroom
      exact two (run_append_room (P := P) w t ty e i ht hi g n cap cur hg a m c news hl hnews h1 hroom hfit) hr (Nat.le_of_eq (setRow_drawn w g _).symm)
    · have holds : ∀ j u, xs[j]? = some u → w.cell? ((⟨g, 0, none⟩ : Addr).add j) = some u := hown.cells (g := g) rfl
      exact two (run_append_grow (P := P) w t ty e i z ht hi hz ⟨g, 0, none⟩ n cap xs hown.1 holds a m c news hl hnews (by omega) (by omega) (growslice_fits (by omega) hbytes)) hr (Nat.le_succ _)
theorem At.grown (hat : At P N w0 F0 E0 fr T H a w M F) {s : Nat} (hs : fr s) {dst : Option Nat} {v : V} {u : Value} {w' : World} {e : Ent} {kb : Option Key} {C : Nat → Prop} (hd : ∀ d, dst = some d → d < N)
    (hlive : ∀ k, kb = some k → ∃ e0, H k = some e0 ∧ e0.live = true)
    (hc : Chg C w w') (hC : ∀ b, C b → ∃ k ub, kb = some k ∧ M k = some ub ∧ blkOf ub = some b)
    (hu : ∀ b, blkOf u = some b → (∃ k ub, kb = some k ∧ M k = some ub ∧ blkOf ub = some b) ∨ w.heap.size ≤ b)
    (hok : ∀ M' F', (∀ k x, M k = some x → M' k = some x) → M' (s, 0) = some u → Holds F F' w w' → EntOk P M' F' w' e u ∧ DenV M' F' w' v u) :
    Inv P N w0 F0 E0 (fun j => fr j ∧ j ≠ s) (putT dst v T) (setH (s, 0) (some e) (dropK kb H)) (a.put dst u) w' := by
  have hMs : M (s, 0) = none := hat.free (s, 0) hs
  let M' : Key → Option Value := fun k => if k = (s, 0) then some u else M k
  let F' : Nat → Prop := fun b => F b ∨ blkOf u = some b
  have hM : ∀ k x, M k = some x → M' k = some x := by
    intro k x hk
    show (if k = (s, 0) then some u else M k) = some x
    rw [if_neg (fun e => by subst e; rw [hMs] at hk; exact absurd hk (by simp))]
    exact hk
  have hMk : M' (s, 0) = some u := by show (if (s, 0) = (s, 0) then some u else M (s, 0)) = some u; rw [if_pos rfl]
  have hbase : ∀ b, (∃ k ub, kb = some k ∧ M k = some ub ∧ blkOf ub = some b) → F b := by
    rintro b ⟨k, ub, hk, hm, hb⟩
    obtain ⟨e0, h0, hl0⟩ := hlive k hk
    obtain ⟨x, hx, _, hF⟩ := hat.real.ent k e0 h0
    rw [hm] at hx; obtain rfl := Option.some.inj hx
    exact hF hl0 b hb
  have hh : Holds F F' w w' := ⟨fun b hb => hb.elim .inl (fun h => (hu b h).imp (hbase b) id), fun b hb hl => hc.block b (fun h => hb (hbase b (hC b h))) hl⟩
  obtain ⟨h1, h2⟩ := hok M' F' hM hMk hh
  have hsub : ∀ j e1, (dropK kb H) j = some e1 → H j = some e1 ∧ kb ≠ some j := by
    intro j e1 h
    cases kb with
    | none => exact ⟨h, by simp⟩
    | some k =>
      simp only [dropK, setH] at h
      by_cases hj : j = k
      · rw [if_pos hj] at h; exact absurd h (by simp)
      · rw [if_neg hj] at h; exact ⟨h, fun e => hj (by simpa using e.symm)⟩
  have hapart : ∀ j e1 u1 b, H j = some e1 → kb ≠ some j → e1.live = true → M j = some u1 → blkOf u1 = some b → ¬ ∃ k ub, kb = some k ∧ M k = some ub ∧ blkOf ub = some b := by
    rintro j e1 u1 b hj hne hl hm hb ⟨k, ub, hk, hmk, hbk⟩
    obtain ⟨e0, h0, hl0⟩ := hlive k hk
    have := hat.real.inj j k e1 e0 u1 ub b hj h0 hl hl0 hm hmk hb hbk
    subst this
    exact hne hk
  refine hat.step (M' := M') (F' := F') hd hM (fun k hk => ?_) (fun b h h' => .inl (hat.keep b h h')) hh ?_ h2 hc (fun i hi => ?_) ?_
  · show (if k = (s, 0) then some u else M k) = M k
    rw [if_neg (fun e => hk (by rw [e]))]
  · refine hat.real.set hM hh (fun b h => .inl h) (fun j e hj h => (hsub j e h).1) (fun j e1 u1 b hj h hl hm hb => ?_) hMk h1 (fun _ b hb => .inr hb) (fun j e1 u1 b hj h hl _ hm hb hb' => ?_)
    · obtain ⟨h3, h4⟩ := hsub j e1 h
      obtain ⟨x, hx, hox, _⟩ := hat.real.ent j e1 h3
      rw [hm] at hx; obtain rfl := Option.some.inj hx
      exact hc.block b (fun hcb => hapart j e1 u1 b h3 h4 hl hm hb (hC b hcb)) (hox.blk_lt hl hb)
    · obtain ⟨h3, h4⟩ := hsub j e1 h
      obtain ⟨x, hx, hox, _⟩ := hat.real.ent j e1 h3
      rw [hm] at hx; obtain rfl := Option.some.inj hx
      rcases hu b hb' with h5 | h5
      · exact hapart j e1 u1 b h3 h4 hl hm hb h5
      · have := hox.blk_lt hl hb
        omega
  · obtain ⟨k, ub, hk, hm, hb⟩ := hC i hi
    obtain ⟨e0, h0, hl0⟩ := hlive k hk
    exact hat.reach k e0 ub i h0 hl0 hm hb
  · intro k e1 u1 b hk hl hm hb
    simp only [setH] at hk
    by_cases hks : k = (s, 0)
    · subst hks
      rw [hMk] at hm; obtain rfl := Option.some.inj hm
      rcases hu b hb with ⟨k', ub, hk', hm', hb'⟩ | h5
      · obtain ⟨e0, h0, hl0⟩ := hlive k' hk'
        exact hat.reach k' e0 ub b h0 hl0 hm' hb'
      · right
        have := hat.chg.size
        omega
    · rw [if_neg hks] at hk
      have hm' : M k = some u1 := by
        have : M' k = M k := by show (if k = (s, 0) then some u else M k) = M k; rw [if_neg hks]
        rw [← this]; exact hm
      exact hat.reach k e1 u1 b (hsub k e1 hk).1 hl hm' hb
theorem newsOf_congr {H' : Store} {x : V} {m : Nat} {c : List V} {ks : List Key} (h : newsOf H x = some (m, c, ks)) (hk : ∀ k ∈ ks, H' k = H k) : newsOf H' x = some (m, c, ks) ∧ (∀ k ∈ ks, (H k).isSome = true ∧ k.1 ∈ slotsV x) := by
  cases x with
  | d y => cases y <;> simp_all [newsOf]
  | nil => simp_all [newsOf]
  | ref k n =>
    simp only [newsOf] at h ⊢
    have hks : ks = [k] := by
      split at h
      · split at h <;> simp_all
      · split at h <;> simp_all
      · exact absurd h (by simp)
    subst hks
    rw [hk k (List.mem_singleton.2 rfl)]
    refine ⟨h, fun k' hk' => ?_⟩
    obtain rfl := List.mem_singleton.1 hk'
    refine ⟨?_, by simp [slotsV]⟩
    split at h
    · rename_i h'; rw [h']; rfl
    · rename_i h'; rw [h']; rfl
    · exact absurd h (by simp)
  | sub k z o n =>
    simp only [newsOf] at h ⊢
    have hks : ks = [k] := by
      split at h
      · simp_all
      · exact absurd h (by simp)
    subst hks
    rw [hk k (List.mem_singleton.2 rfl)]
    refine ⟨h, fun k' hk' => ?_⟩
    obtain rfl := List.mem_singleton.1 hk'
    refine ⟨?_, by simp [slotsV]⟩
    split at h
    · rename_i h'; rw [h']; rfl
    · exact absurd h (by simp)
  | _ => simp [newsOf] at h
theorem appendS_sound {nx s : Nat} {o : Oper} {ρ : Operand → V} {t : TypeId} {b x : Operand} (ho : o.op = .call ⟨.builtin .append, #[b, x], #[t, t]⟩) {K : Eff → Prop} (h : appendS P H s t (ρ b) (ρ x) K) : ∃ E, K E ∧ OpOk P N nx s H o ρ E := by
  unfold appendS at h
  split at h
  · rename_i e s0 b0 zc0 hg
    split at h
    · rename_i I kb n c m c2 ks hI hb hx
      obtain ⟨⟨hpos, hl2, hone, hbytes, hmax, hzl⟩, h⟩ := h
      have hu := digest_slice hg
      obtain ⟨i, z, hi, hz, hzc⟩ := digest_zero hI
      obtain ⟨i', hi', hsz, hby⟩ := digest_size hI
      rw [hi] at hi'; obtain rfl := Option.some.inj hi'
      have hnx := newsOf_congr (H' := H) hx (fun _ _ => rfl)
      have hkb : ∀ k, kb = some k → ρ b = .ref k n ∧ H k = some (.row e n c) := by
        intro k hk
        subst hk
        cases hrb : ρ b with
        | ref k' n' =>
          rw [hrb] at hb
          simp only [baseOf] at hb
          split at hb
          · rename_i e' m' c' hk'
            split at hb
            · rename_i he
              simp only [Option.some.injEq, Prod.mk.injEq] at hb
              obtain ⟨rfl, rfl, rfl⟩ := hb
              obtain ⟨rfl, rfl⟩ := he
              exact ⟨rfl, hk'⟩
            · exact absurd hb (by simp)
          · exact absurd hb (by simp)
        | nil => rw [hrb] at hb; simp [baseOf] at hb
        | _ => rw [hrb] at hb; simp [baseOf] at hb
      have hkn : kb = none → ρ b = .nil ∧ n = 0 ∧ c = [] := by
        intro hk
        subst hk
        cases hrb : ρ b with
        | ref k' n' =>
          rw [hrb] at hb
          simp only [baseOf] at hb
          split at hb
          · split at hb <;> simp at hb
          · exact absurd hb (by simp)
        | nil => rw [hrb] at hb; simp [baseOf] at hb; exact ⟨rfl, hb.1.symm, hb.2⟩
        | _ => rw [hrb] at hb; simp [baseOf] at hb
      refine ⟨_, h, fun k hk => ?_, fun k hk => List.mem_append_left _ hk, fun k hk => ?_, fun {w0 F0 E0 fr T Hc a w M F} hs hat hρ hH hd Q => ?_⟩
      · simp only [upApp, up1] at hk
        by_cases h1 : k = (s, 0)
        · left; rw [h1]
        · rw [if_neg h1] at hk
          right
          cases kb with
          | none => exact absurd rfl hk
          | some k' =>
            simp only [up1] at hk
            by_cases h2 : k = k'
            · simp [h2]
            · rw [if_neg h2] at hk; exact absurd rfl hk
      · rcases List.mem_append.1 hk with hk | hk
        · cases kb with
          | none => simp at hk
          | some k' =>
            simp at hk; subst hk
            obtain ⟨h1, h2⟩ := hkb k rfl
            exact ⟨by rw [h2]; rfl, .inr ⟨b, by simp [ho, Op.operands, Call.operands], by rw [h1]; simp [slotsV]⟩⟩
        · obtain ⟨h1, h2⟩ := hnx.2 k hk
          exact ⟨h1, .inr ⟨x, by simp [ho, Op.operands, Call.operands], h2⟩⟩
      · have hxb := hρ b (by simp [ho, Op.operands, Call.operands])
        have hxx := hρ x (by simp [ho, Op.operands, Call.operands])
        have hx' := (newsOf_congr hx (H' := Hc) (fun k hk => hH k (List.mem_append_right _ hk))).1
        obtain ⟨A, cap, news, hue, hnd, hcells⟩ := newsOf_den hx' hat.real hxx
        have hnl : news.length = m * i.size := by rw [hnd.length, hl2, hsz]
        have hones := hnd.oneCell hone
        have hbytes' : (n + m) * i.bytes ≤ 140737488355328 := by rw [hby]; exact hbytes
        have hexec : ∀ {r : Value} {w' : World}, (Builtin.append_ #[t, t] o.type #[a.eval b, a.eval x]).run P w = .ok r w' → (execOp a.eval o).run P w = .ok (.value r) w' := by
          intro r w' hr
          simp only [execOp, ho, resolve, Sem.run_bind, Sem.run_pure, Result.andThen_ok, invoke, builtin]
          have : (#[b, x].map a.eval) = #[a.eval b, a.eval x] := by simp
          rw [this, hr]
          rfl
        have fin : ∀ {r : Value} {w' : World}, (Builtin.append_ #[t, t] o.type #[a.eval b, a.eval x]).run P w = .ok r w' →
            Inv P N w0 F0 E0 (fun j => fr j ∧ j ≠ s) (putT o.dst (.ref (s, 0) (n + m)) T) (setH (s, 0) (some (.row e (n + m) (c ++ c2))) (dropK kb Hc)) (a.put o.dst r) w' →
            o.wp P a w (fun a' w' => Inv P N w0 F0 E0 (fun j => fr j ∧ j ≠ s) (putT o.dst (.ref (s, 0) (n + m)) T) (app (upApp s e (n + m) (c ++ c2) kb) Hc) a' w') Q := by
          intro r w' hr hinv
          unfold Oper.wp
          rw [hexec hr, Oper.upon_value]
          have : app (upApp s e (n + m) (c ++ c2) kb) Hc = setH (s, 0) (some (.row e (n + m) (c ++ c2))) (dropK kb Hc) := by
            unfold upApp
            rw [app_up1]
            cases kb with
            | none => rfl
            | some k => simp only [dropK]; rw [app_up1]; rfl
          rw [this]
          exact hinv
        have zero : ∀ (Ab : Option Addr), a.eval b = .slice Ab 0 0 → n = 0 → c = [] → (∀ k, kb = some k → ∃ e0, Hc k = some e0 ∧ e0.live = true) →
            o.wp P a w (fun a' w' => Inv P N w0 F0 E0 (fun j => fr j ∧ j ≠ s) (putT o.dst (.ref (s, 0) (n + m)) T) (app (upApp s e (n + m) (c ++ c2) kb) Hc) a' w') Q := by
          intro Ab hAb hn0 hc0 hlive
          subst hn0; subst hc0
          by_cases hm0 : m = 0
          · have hc2 : c2 = [] := List.eq_nil_of_length_eq_zero (by rw [hl2, hm0]; simp)
            refine fin (r := .slice Ab 0 0) (w' := w) (by rw [hAb, hue, hm0]; exact run_append_empty w t _ e i hu hi _ _ _ _ _ (Nat.le_refl _)) ?_
            refine hat.grown (u := .slice Ab 0 0) (e := .row e (0 + m) ([] ++ c2)) hs hd hlive (Chg.refl (fun _ => False) w) (fun b h => h.elim) (fun b hb => by cases Ab <;> simp [blkOf] at hb) fun M' F' hM hk hh => ⟨.inr ⟨Ab, rfl, by simp [hm0], by simp [hc2]⟩, ?_⟩
            unfold DenV
            exact ⟨hk, Ab, 0, by simp [hm0], .inl (by simp [hm0]), by simp [hm0]⟩
          · have had : ∃ ad, A = some ad ∧ ∀ j v, news[j]? = some v → w.cell? (ad.add j) = some v := by
              rcases hcells with h1 | ⟨h1, _⟩
              · exact h1
              · exact absurd h1 hm0
            obtain ⟨ad, rfl, hcl⟩ := had
            have hm63 : m ≤ maxLen := by omega
            have hr := run_append0 (P := P) w t o.type e i z hu hi hz Ab ad m cap news hnl hcl (by omega) (by unfold maxLen at hm63; omega) (by have := hbytes'; simp only [Nat.zero_add] at this; omega)
            refine fin (by rw [hAb, hue]; exact hr) ?_
            have hge := grownCap_ge w m 0 e
            have hcm : grownCap w m 0 e ≤ maxLen := grownCap_le_maxLen w m 0 e hm63
            have hchg : Chg (fun _ => False) w (w.drew.alloc (.cells (news.toArray ++ Builtin.zeroCells z.cells (grownCap w m 0 e - m)) e)) := ⟨rfl, rfl, rfl, by simp, fun b _ hl => heap_alloc_old w.drew _ b hl, Nat.le_succ _⟩
            refine hat.grown hs hd hlive hchg (fun b h => h.elim) (fun b hb => ?_) fun M' F' hM hk hh => ⟨.inl ⟨news, i, hi, ⟨by simpa using hnl, .inr ⟨w.heap.size, _, _, by simp, Nat.zero_le _, heap_alloc_new w.drew _, by omega, hcm, ?_, ?_⟩⟩, by simpa using hnd.move hM hh⟩, ?_⟩
            · right
              simp only [blkOf] at hb
              split at hb
              · exact absurd hb (by simp)
              · simp at hb; omega
            · have hzz : z.cells.size = i.size := by
                have : I.zc.length = z.cells.size := by rw [hzc]; simp
                omega
              simp only [Array.size_append, List.size_toArray, size_zeroCells, hnl, hzz, ← Nat.add_mul]
              congr 1
              omega
            · simp only [Array.toList_append, Nat.zero_add]
              rw [← hnl]
              simp
            · unfold DenV
              exact ⟨hk, some ⟨w.heap.size, 0, none⟩, grownCap w m 0 e, by simp, .inr ⟨_, _, rfl⟩, by have := grownCap_ge w m 0 e; omega⟩
        cases hkb' : kb with
        | none =>
          obtain ⟨h1, h2, h3⟩ := hkn hkb'
          rw [h1] at hxb
          unfold DenV at hxb
          obtain ⟨Ab, hAb⟩ := hxb
          rw [← hkb']
          exact zero Ab hAb h2 h3 (fun k hk => by rw [hkb'] at hk; exact absurd hk (by simp))
        | some k =>
          obtain ⟨h1, h2⟩ := hkb k hkb'
          have h2c : Hc k = some (.row e n c) := by rw [hH k (by simp [hkb'])]; exact h2
          rw [h1] at hxb
          unfold DenV at hxb
          obtain ⟨hMk, Ab, capb, hbe, hzb⟩ := hxb
          obtain ⟨ub, hub, hok, hFb⟩ := hat.real.ent k _ h2c
          rw [hMk] at hub
          obtain rfl := Option.some.inj hub
          have hlive : ∀ k, kb = some k → ∃ e0, Hc k = some e0 ∧ e0.live = true := by
            intro k' hk'
            rw [hkb'] at hk'
            obtain rfl := Option.some.inj hk'
            exact ⟨_, h2c, rfl⟩
          rw [← hkb']
          by_cases hcap0 : capb = 0
          · subst hcap0
            have hn0 : n = 0 ∧ c = [] := by
              rcases hok with ⟨xs, i2, hi2, hown, hdx⟩ | ⟨A', he, h3, h4⟩
              · have hn : n = 0 := by
                  rcases hown.2 with ⟨he, hn⟩ | ⟨g, cap', cur, he, _, _, hnc, _⟩
                  · exact hn
                  · rw [hbe] at he; simp at he; omega
                refine ⟨hn, List.eq_nil_of_length_eq_zero ?_⟩
                rw [← hdx.length, hown.1, hn]; simp
              · exact ⟨h3, h4⟩
            obtain ⟨hn0, hc0⟩ := hn0
            exact zero Ab (by rw [hbe, hn0]) hn0 hc0 hlive
          · rcases hok with ⟨xs, i2, hi2, hown, hdx⟩ | ⟨A', he, h3, h4⟩
            · rw [hi] at hi2
              obtain rfl := Option.some.inj hi2
              by_cases hm0 : m = 0
              · have hc2 : c2 = [] := List.eq_nil_of_length_eq_zero (by rw [hl2, hm0]; simp)
                have hncap : n ≤ capb := by
                  rcases hown.2 with ⟨he, hn⟩ | ⟨g, cap', cur, he, _, _, hnc, _⟩
                  · rw [hbe] at he; simp at he; omega
                  · rw [hbe] at he; simp at he; omega
                refine fin (r := a.eval b) (w' := w) (by rw [hbe, hue, hm0]; exact run_append_empty w t _ e i hu hi _ _ _ _ _ hncap) ?_
                refine hat.grown hs hd hlive (Chg.refl (fun _ => False) w) (fun b h => h.elim) (fun b' hb' => .inl ⟨k, _, hkb', hMk, hb'⟩) fun M' F' hM hk hh => ⟨.inl ⟨xs, i, hi, by rw [hm0]; exact hown, by rw [hc2, List.append_nil]; exact hdx.move hM hh⟩, ?_⟩
                unfold DenV
                exact ⟨hk, Ab, capb, by rw [hm0]; exact hbe, by rw [hm0]; exact hzb⟩
              · have had : ∃ ad, A = some ad ∧ ∀ j v, news[j]? = some v → w.cell? (ad.add j) = some v := by
                  rcases hcells with h1 | ⟨h1, _⟩
                  · exact h1
                  · exact absurd h1 hm0
                obtain ⟨ad, rfl, hcl⟩ := had
                have hzz : z.cells.size = i.size := by
                  have : I.zc.length = z.cells.size := by rw [hzc]; simp
                  omega
                obtain ⟨v', w', hr, hown', hgr, _, hat'⟩ := run_append_own_at (P := P) w 0 t o.type e i z i.size i.bytes hu hi hz rfl rfl hzz (by omega) (a.eval b) n xs hown ad m cap news hnl hcl hones hmax hbytes' (Nat.zero_le _)
                have hblk : blkOf (a.eval b) = (a.eval b).ownBlock := by
                  rw [hbe]; cases Ab <;> simp [blkOf, Value.ownBlock, hcap0]
                refine fin (by rw [hue]; exact hr) ?_
                refine hat.grown hs hd hlive (C := fun i => blkOf (a.eval b) = some i) ⟨hgr.os, hgr.tape, hgr.output, hgr.size, fun i hi hl => hgr.block i hl (fun e => hi (by rw [hblk, ← e])), append_drawn w 0 t o.type e i z i.size i.bytes hu hi hz rfl rfl hzz (by omega) (a.eval b) n xs hown ad m cap news hnl hcl hones hmax hbytes' (Nat.zero_le _) hr⟩ (fun b' hb' => ⟨k, _, hkb', hMk, hb'⟩) (fun b' hb' => ?_) fun M' F' hM hk hh => ⟨.inl ⟨_, i, hi, hown', (hdx.move hM hh).append (hnd.move hM hh)⟩, ?_⟩
                · have hbo : v'.ownBlock = some b' := by
                    rcases hown'.2 with ⟨he, _⟩ | ⟨g, cap', cur, he, _⟩
                    · rw [he] at hb'; simp [blkOf] at hb'
                    · rw [he] at hb' ⊢
                      simp only [blkOf] at hb'
                      split at hb'
                      · exact absurd hb' (by simp)
                      · exact hb'
                  rcases hat' with h5 | h5
                  · left
                    exact ⟨k, _, hkb', hMk, by rw [hblk, ← h5]; exact hbo⟩
                  · right
                    rw [hbo] at h5
                    obtain rfl := Option.some.inj h5
                    exact Nat.le_refl _
                · unfold DenV
                  rcases hown'.2 with ⟨he, hn⟩ | ⟨g, cap', cur, he, _, _, hnc, _⟩
                  · exact ⟨hk, none, 0, by rw [he, hn], .inl hn, by omega⟩
                  · exact ⟨hk, _, _, he, .inr ⟨_, _, rfl⟩, hnc⟩
            · rw [hbe] at he; simp at he; exact absurd he.2.2 hcap0
    · exact h.elim
  · exact h.elim
end
end Go.Proofs.YtjknjekemolndaaGreat.Abs
