/- Texts of the abs road (plain values, what code does to them, and the contracts of the functions that the law reaches). No condition. -/
import Derived.Test.YtjknjekemolndaaGreatG3FnExactNeatRegion
import Derived.Laws.CopyRow
namespace Go.Proofs.YtjknjekemolndaaGreat.Abs
open Go Go.RowKit
set_option linter.unusedVariables false
set_option linter.unusedSimpArgs false
def copyS (P : Program) (H : Store) (t : TypeId) (b x : V) (K : Eff → Prop) : Prop := match digest P t, b, x with
  | some ⟨.slice e, _, _, _⟩, .ref k n, .d (.sl m cs) => match digest P e, H k with
    | some I, some (.row e' n' c) => (I.size = 1 ∧ n' = n ∧ c.length = n ∧ cs.length = m ∧ m ≤ n ∧ 0 < n) ∧ K ⟨.d (.int .i64 m), [k], [k], up1 k (some (.row e' n (splice c 0 (cs.map V.d)))) noUp⟩
    | _, _ => False
  | _, _, _ => False
section
variable {P : Program} {N : Nat} {w0 : Base} {F0 E0 fr : Nat → Prop} {T : Nat → V} {H : Store} {a : Act} {w : World} {M : Key → Option Value} {F : Nat → Prop}
theorem copyS_sound {nx s : Nat} {o : Oper} {ρ : Operand → V} {t t' : TypeId} {b x : Operand} (ho : o.op = .call ⟨.builtin .copy, #[b, x], #[t, t']⟩) {K : Eff → Prop} (h : copyS P H t (ρ b) (ρ x) K) : ∃ E, K E ∧ OpOk P N nx s H o ρ E := by
  unfold copyS at h
  split at h
  · rename_i e s0 b0 zc0 k n m cs hg hrb hrx
    split at h
    · rename_i I e' n' c hI hk
      obtain ⟨⟨h1, rfl, hcl, hml, hmn, hpos⟩, h⟩ := h
      obtain ⟨i', hi', hsz, hby⟩ := digest_size hI
      have hu := digest_slice hg
      refine ⟨_, h, fun j hj => ?_, fun j hj => hj, fun j hj => ?_, fun {w0 F0 E0 fr T Hc a w M F} hs hat hρ hH hdst Q => ?_⟩
      · right
        simp only [up1] at hj
        by_cases e : j = k
        · simp [e]
        · rw [if_neg e] at hj; exact absurd rfl hj
      · obtain rfl := List.mem_singleton.1 hj
        exact ⟨by rw [hk]; rfl, .inr ⟨b, by simp [ho, Op.operands, Call.operands], by rw [hrb]; simp [slotsV]⟩⟩
      · have hxb := hρ b (by simp [ho, Op.operands, Call.operands])
        have hxx := hρ x (by simp [ho, Op.operands, Call.operands])
        rw [hrb] at hxb
        rw [hrx] at hxx
        obtain ⟨A, cap, news, hue, hnd, hcells⟩ := newsOf_den (H := Hc) (x := .d (.sl m cs)) (c := cs.map V.d) (ks := []) rfl hat.real hxx
        have hnl : news.length = m := by rw [hnd.length]; simp [hml]
        have hones := hnd.oneCell (by simp [V.one])
        have hkc : Hc k = some (.row e' n' c) := by rw [hH k (List.mem_singleton.2 rfl)]; exact hk
        obtain ⟨u, hu0, hoku, hFk⟩ := hat.real.ent _ _ hkc
        unfold DenV at hxb
        obtain ⟨hMk, Ab, capb, hbe, _⟩ := hxb
        rw [hu0] at hMk
        obtain rfl := Option.some.inj hMk
        rcases hoku with ⟨xs, i, hi, hown, hd⟩ | ⟨A', he, hn0, _⟩
        rotate_left
        · omega
        have hxl : xs.length = n' := by rw [hd.length]; exact hcl
        have hi1 : i.size = 1 := by
          have := hown.1
          rw [hxl] at this
          have h3 : n' * 1 = n' * i.size := by rw [Nat.mul_one]; exact this
          exact (Nat.eq_of_mul_eq_mul_left hpos h3).symm
        rcases hown.2 with ⟨he, hn⟩ | ⟨g, cap', cur, he, hg0, hgh, hnc, hm, hcs, ht⟩
        · omega
        rw [hbe] at he
        simp only [Value.slice.injEq] at he
        obtain ⟨rfl, _, rfl⟩ := he
        have hFg : F g := hFk rfl g (by rw [hbe]; simp [blkOf]; omega)
        have hbk : blkOf (a.eval b) = some g := by rw [hbe]; simp [blkOf]; omega
        have hrun : (execOp a.eval o).run P w = .ok (.value (goInt m)) (w.setRow g (cur.toList.take 0 ++ news ++ cur.toList.drop (0 + news.length)).toArray) := by
          have hc : (Builtin.copy_ #[t, t'] o.type #[a.eval b, a.eval x]).run P w = .ok (goInt m) (w.setRow g (cur.toList.take 0 ++ news ++ cur.toList.drop (0 + news.length)).toArray) := by
            rw [hbe, hue]
            have hsome : (P.info? e).map (·.size) = some 1 := by rw [hi', Option.map_some, hsz, h1]
            have hmin : news.length = Nat.min m n' := by rw [hnl]; exact (Nat.min_eq_left hmn).symm
            have hfit : 0 + news.length ≤ cur.size := by rw [hnl, hcs, hi1]; omega
            have fin : ∀ ad : Addr, A = some ad → (∀ j v, news[j]? = some v → w.cell? (ad.add j) = some v) → (Builtin.copy_ #[t, t'] o.type #[.slice (some ⟨g, 0, none⟩) n' capb, .slice A m cap]).run P w = .ok (goInt m) (w.setRow g (cur.toList.take 0 ++ news ++ cur.toList.drop (0 + news.length)).toArray) := fun ad hA hcl => by
              subst hA
              have := run_copy_row (P := P) w t t' o.type e g 0 n' capb ad m cap cur _ news hu hsome hgh hmin hcl hfit hones
              rw [hnl] at this ⊢
              exact this
            rcases hcells with ⟨ad, hA, hcl⟩ | ⟨hm0, _⟩
            · exact fin ad hA hcl
            · have hnews : news = [] := List.eq_nil_of_length_eq_zero (by omega)
              cases A with
              | some ad => exact fin ad rfl (fun j v hv => by rw [hnews] at hv; simp at hv)
              | none =>
                subst hm0
                have hself : w.setRow g (cur.toList.take 0 ++ news ++ cur.toList.drop (0 + news.length)).toArray = w := by
                  rw [hnews]
                  simp only [List.take_zero, List.nil_append, List.length_nil, Nat.add_zero, List.drop_zero, Array.toArray_toList]
                  exact setRow_self w g cur _ _ hgh
                rw [hself]
                simp [Builtin.copy_, run_underlying hu, Builtin.lenOf, Builtin.firstCells, sizeOf, typeInfo, hi', storeCells]
          simp only [execOp, ho, resolve, Sem.run_bind, Sem.run_pure, Result.andThen_ok, invoke, builtin]
          have : (#[b, x].map a.eval) = #[a.eval b, a.eval x] := by simp
          rw [this, hc]
          rfl
        have hchg := setRow_chg w g (cur.toList.take 0 ++ news ++ cur.toList.drop (0 + news.length)).toArray
        have hh := holds_of_chg hchg hFg
        unfold Oper.wp
        rw [hrun, Oper.upon_value, app_up1, app_noUp]
        have hw' := setRow_heap w g cur (cur.toList.take 0 ++ news ++ cur.toList.drop (0 + news.length)).toArray _ (0, 0) hgh
        refine hat.step hdst (fun _ _ h => h) (fun _ _ => rfl) hat.keep hh ?_ (by unfold DenV DenD; rfl) hchg (fun i hi => by subst hi; exact hat.reach k _ _ _ hkc rfl hu0 hbk) ?_
        · refine hat.real.set (fun _ _ h => h) hh (fun _ h => h) (fun j e1 hj h => h) (fun j e1 u1 b1 hj h hl hm hb1 => ?_) hu0 ?_ (fun _ b1 hb1 => ?_) (fun j e1 u1 b1 hj h hl _ hm hb1 hb2 => ?_)
          · refine setRow_other w g b1 _ (fun he => hj ?_)
            subst he
            exact hat.real.inj j k e1 _ u1 _ b1 h hkc hl rfl hm hu0 hb1 hbk
          · left
            have hd' := splice_den 0 (hd.move (fun _ _ h => h) hh) (hnd.move (fun _ _ h => h) hh)
            refine ⟨_, i, hi, ⟨?_, .inr ⟨g, capb, _, hbe, Nat.zero_le _, hw', hnc, hm, ?_, ?_⟩⟩, hd'⟩
            · rw [hd'.length]
              simp [splice, hcl, hml, hi1]
              omega
            · simp [hnl, hcs, hi1]
              omega
            · rw [← ht]
              simp only [Nat.zero_add, List.take_zero, List.nil_append]
              have hni : n' * i.size = n' := by rw [hi1, Nat.mul_one]
              rw [hni, List.take_append, List.take_of_length_le (by omega), List.drop_take]
          · rw [hbk] at hb1; obtain rfl := Option.some.inj hb1; exact hFg
          · exact hj (hat.real.inj j k e1 _ u1 _ b1 h hkc hl rfl hm hu0 hb1 hb2)
        · intro j e1 u1 b1 hj hl hm hb1
          simp only [setH] at hj
          by_cases hjk : j = k
          · subst hjk
            rw [hu0] at hm
            obtain rfl := Option.some.inj hm
            exact hat.reach j _ _ b1 hkc rfl hu0 hb1
          · rw [if_neg hjk] at hj
            exact hat.reach j e1 u1 b1 hj hl hm hb1
    · exact h.elim
  · exact h.elim
end
end Go.Proofs.YtjknjekemolndaaGreat.Abs
namespace Go.Proofs.YtjknjekemolndaaGreat.Abs
open Go Go.RowKit
set_option linter.unusedVariables false
set_option linter.unusedSimpArgs false
def hemp : Store := fun _ => none
structure Cn (P : Program) (f : Nat) (vs : List V) (r : V) (Hr : Store) : Prop where
  enter : ∀ args w, (callFunc f args).run P w = .ok (.enter f args) w
  run : ∀ (w : World) (F : Nat → Prop) (args : Array Value), (∀ b, F b → b < w.heap.size) → DenVs (fun _ => none) F w vs args.toList →
    Calls P f args w fun e w' => ∃ v M' F', e = .returned v ∧ (∀ b, F b → F' b) ∧ DenV M' F' w' r v ∧ Real P M' F' w' Hr ∧ Chg (fun _ => False) w w' ∧
      (∀ k e u b, Hr k = some e → e.live = true → M' k = some u → blkOf u = some b → w.heap.size ≤ b) ∧ (∀ k : Key, k.1 ≠ 0 → M' k = none)
def joinO : List (Option (D × List Key)) → Option (List D × List Key)
  | [] => some ([], [])
  | o :: r => match o, joinO r with
    | some (x, ks), some (xs, ks') => some (x :: xs, ks ++ ks')
    | _, _ => none
def lendD (al : Bool) (H : Store) : Nat → V → Option (D × List Key)
  | 0, v => match v with
    | .d x => some (x, [])
    | .nil => some (.sl 0 [], [])
    | _ => none
  | n + 1, v => match v with
    | .d x => some (x, [])
    | .nil => some (.sl 0 [], [])
    | .ref k m => match H k with
      | some (.fz m' c) => if m' = m then some (.sl m c, [k]) else none
      | some (.row _ m' c) => if al = true ∧ m' = m then match joinO (c.map (lendD al H n)) with
        | some (cs, ks) => some (.sl m cs, k :: ks)
        | none => none
        else none
      | _ => none
    | _ => none
def lendV (al : Bool) (H : Store) (n : Nat) : V → Option (V × List Key)
  | .agg c => match joinO (c.map (lendD al H n)) with
    | some (cs, ks) => some (.agg (cs.map V.d), ks)
    | none => none
  | .fn f [] => some (.fn f [], [])
  | v => match lendD al H n v with
    | some (x, ks) => some (.d x, ks)
    | none => none
def lendVs (al : Bool) (H : Store) (n : Nat) : List V → Option (List V × List Key)
  | [] => some ([], [])
  | v :: r => match lendV al H n v, lendVs al H n r with
    | some (x, ks), some (xs, ks') => some (x :: xs, ks ++ ks')
    | _, _ => none
theorem joinO_map (al : Bool) (H : Store) (n : Nat) (cs : List D) : joinO ((cs.map V.d).map (lendD al H n)) = some (cs, []) := by
  induction cs with
  | nil => rfl
  | cons x r ih =>
    have : lendD al H n (.d x) = some (x, []) := by cases n <;> rfl
    simp only [List.map_cons, joinO, this, ih, List.nil_append]
section
variable {P : Program} {N : Nat} {w0 : Base} {F0 E0 fr : Nat → Prop} {T : Nat → V} {H : Store} {a : Act} {w : World} {M : Key → Option Value} {F : Nat → Prop}
def Lent (H : Store) (M : Key → Option Value) (ks : List Key) (b : Nat) : Prop := ∃ k ∈ ks, ∃ e u, H k = some e ∧ e.live = true ∧ M k = some u ∧ blkOf u = some b
theorem joinO_den {M' : Key → Option Value} {Fc : Nat → Prop} : ∀ {c : List V} {us : List Value} {l : List (Option (D × List Key))} {cs : List D} {ks : List Key}, c.length = l.length →
    (∀ (j : Nat) (v : V) (x : D) (kk : List Key) (u : Value), c[j]? = some v → l[j]? = some (some (x, kk)) → us[j]? = some u → (∀ k ∈ kk, k ∈ ks) → DenD Fc w x u) → DenVs M F w c us → joinO l = some (cs, ks) → DenVs M' Fc w (cs.map V.d) us
  | [], us, l, cs, ks, hl, hj, hd, h => by
    have : l = [] := List.eq_nil_of_length_eq_zero (by simpa using hl.symm)
    subst this
    simp [joinO] at h
    unfold DenVs at hd
    obtain ⟨rfl, _⟩ := h
    subst hd
    exact DenVs.nil
  | v :: c, us, l, cs, ks, hl, hj, hd, h => by
    cases l with
    | nil => simp at hl
    | cons o l =>
      unfold DenVs at hd
      obtain ⟨u, r, rfl, hu, hr⟩ := hd
      simp only [joinO] at h
      cases o with
      | none => simp at h
      | some p =>
        obtain ⟨x, kk⟩ := p
        cases hq : joinO l with
        | none => rw [hq] at h; simp at h
        | some q =>
          obtain ⟨xs, ks'⟩ := q
          rw [hq] at h
          simp only [Option.some.injEq, Prod.mk.injEq] at h
          obtain ⟨rfl, rfl⟩ := h
          refine DenVs.cons ?_ (joinO_den (ks := ks') (by simpa using hl) (fun j v' x' kk' u' h1 h2 h3 h4 => hj (j + 1) v' x' kk' u' (by simpa using h1) (by simpa using h2) (by simpa using h3) (fun k hk => List.mem_append_right _ (h4 k hk))) hr hq)
          unfold DenV
          exact hj 0 v x kk u rfl rfl rfl (fun k hk => List.mem_append_left _ hk)
theorem joinO_keys : ∀ {l : List (Option (D × List Key))} {cs : List D} {ks : List Key}, joinO l = some (cs, ks) → ∀ k ∈ ks, ∃ (j : Nat) (x : D) (kk : List Key), l[j]? = some (some (x, kk)) ∧ k ∈ kk
  | [], cs, ks, h, k, hk => by simp [joinO] at h; obtain ⟨_, rfl⟩ := h; simp at hk
  | o :: l, cs, ks, h, k, hk => by
    simp only [joinO] at h
    cases o with
    | none => simp at h
    | some p =>
      obtain ⟨x, kk⟩ := p
      cases hq : joinO l with
      | none => rw [hq] at h; simp at h
      | some q =>
        obtain ⟨xs, ks'⟩ := q
        rw [hq] at h
        simp only [Option.some.injEq, Prod.mk.injEq] at h
        obtain ⟨rfl, rfl⟩ := h
        rcases List.mem_append.1 hk with hk | hk
        · exact ⟨0, x, kk, rfl, hk⟩
        · obtain ⟨j, x', kk', h1, h2⟩ := joinO_keys hq k hk
          exact ⟨j + 1, x', kk', by simpa using h1, h2⟩
theorem joinO_at : ∀ {l : List (Option (D × List Key))} {cs : List D} {ks : List Key} {j : Nat} {x : D} {kk : List Key}, joinO l = some (cs, ks) → l[j]? = some (some (x, kk)) → ∀ k ∈ kk, k ∈ ks
  | [], cs, ks, j, x, kk, h, hj => by simp at hj
  | o :: l, cs, ks, j, x, kk, h, hj => by
    simp only [joinO] at h
    cases o with
    | none => simp at h
    | some p =>
      obtain ⟨x0, kk0⟩ := p
      cases hq : joinO l with
      | none => rw [hq] at h; simp at h
      | some q =>
        obtain ⟨xs, ks'⟩ := q
        rw [hq] at h
        simp only [Option.some.injEq, Prod.mk.injEq] at h
        obtain ⟨rfl, rfl⟩ := h
        intro k hk
        cases j with
        | zero =>
          simp at hj
          obtain ⟨rfl, rfl⟩ := hj
          exact List.mem_append_left _ hk
        | succ j => exact List.mem_append_right _ (joinO_at hq (by simpa using hj) k hk)
theorem lendD_den {Fc : Nat → Prop} (hR : Real P M F w H) (hFc : ∀ b, Fc b → F b) {al : Bool} : ∀ {n : Nat} {v : V} {x : D} {ks : List Key} {u : Value}, lendD al H n v = some (x, ks) → (al = true → ∀ b, Fc b → ¬ Lent H M ks b) → DenV M F w v u → DenD Fc w x u := by
  have hmv : ∀ {x : D} {u : Value}, DenD F w x u → DenD Fc w x u := fun h => h.move ⟨fun b hb => .inl (hFc b hb), fun _ _ _ => rfl⟩
  have hnil : ∀ {u : Value}, DenV M F w .nil u → DenD Fc w (.sl 0 []) u := by
    intro u hu
    unfold DenV at hu
    obtain ⟨A, rfl⟩ := hu
    unfold DenD
    exact ⟨A, 0, rfl, Nat.le_refl _, .inl rfl, .inl rfl⟩
  intro n
  induction n with
  | zero =>
    intro v x ks u h hL hu
    cases v with
    | d y =>
      simp only [lendD, Option.some.injEq, Prod.mk.injEq] at h; obtain ⟨rfl, rfl⟩ := h
      unfold DenV at hu; exact hmv hu
    | nil =>
      simp only [lendD, Option.some.injEq, Prod.mk.injEq] at h; obtain ⟨rfl, rfl⟩ := h
      exact hnil hu
    | _ => simp [lendD] at h
  | succ n ih =>
    intro v x ks u h hL hu
    cases v with
    | d y =>
      simp only [lendD, Option.some.injEq, Prod.mk.injEq] at h; obtain ⟨rfl, rfl⟩ := h
      unfold DenV at hu; exact hmv hu
    | nil =>
      simp only [lendD, Option.some.injEq, Prod.mk.injEq] at h; obtain ⟨rfl, rfl⟩ := h
      exact hnil hu
    | unk => simp [lendD] at h
    | ptr k o => simp [lendD] at h
    | adr k o => simp [lendD] at h
    | agg k => simp [lendD] at h
    | tup k => simp [lendD] at h
    | fn k o => simp [lendD] at h
    | sub k z o m => simp [lendD] at h
    | ref k m =>
      simp only [lendD] at h
      unfold DenV at hu
      obtain ⟨hMk, A, cap, rfl, hz, hncap⟩ := hu
      split at h
      · rename_i m' c hk
        split at h
        · rename_i hm
          simp only [Option.some.injEq, Prod.mk.injEq] at h; obtain ⟨rfl, rfl⟩ := h
          obtain ⟨u', hu', hok, _⟩ := hR.ent _ _ hk
          rw [hMk] at hu'
          obtain rfl := Option.some.inj hu'
          subst hm
          exact hmv hok
        · exact absurd h (by simp)
      · rename_i e m' c hk
        split at h
        · rename_i hm
          split at h
          · rename_i cs ks' hj
            simp only [Option.some.injEq, Prod.mk.injEq] at h; obtain ⟨rfl, rfl⟩ := h
            obtain ⟨u', hu', hok, _⟩ := hR.ent _ _ hk
            rw [hMk] at hu'
            obtain rfl := Option.some.inj hu'
            obtain ⟨hal, rfl⟩ := hm
            rcases hok with ⟨xs, i, _, hown, hd⟩ | ⟨A', he, rfl, rfl⟩
            · have hden : DenVs M Fc w (cs.map V.d) xs := joinO_den (by simp) (fun j v' x' kk u' h1 h2 h3 h4 => by
                rw [List.getElem?_map, h1] at h2
                simp at h2
                obtain ⟨u2, hu2, hd2⟩ := hd.get h1
                rw [h3] at hu2
                obtain rfl := Option.some.inj hu2
                exact ih h2 (fun hal b hb => fun ⟨k', hk', hx⟩ => hL hal b hb ⟨k', List.mem_cons_of_mem _ (h4 k' hk'), hx⟩) hd2) hd hj
              unfold DenD
              have hn : m' ≤ cap := by
                rcases hown.2 with ⟨he, hn⟩ | ⟨g, cap', cur, he, _, _, hnc, _⟩
                · omega
                · simp at he; omega
              refine ⟨A, cap, rfl, hn, hz, ?_⟩
              by_cases hcs : cs = []
              · exact .inl hcs
              · right
                rcases hown.2 with ⟨he, hn0⟩ | ⟨g, cap', cur, he, _, hg, _, _, _, ht⟩
                · have h1 : xs.length = 0 := by rw [hown.1, hn0]; simp
                  have h2 := hden.length
                  rw [h1] at h2
                  exact absurd (List.eq_nil_of_length_eq_zero (by simpa using h2.symm)) hcs
                · simp only [Value.slice.injEq] at he
                  obtain ⟨rfl, _, rfl⟩ := he
                  refine ⟨g, 0, rfl, fun hF => ?_, DenDs.of_values (M := M) (fun j v hv => ?_) hden⟩
                  · refine hL hal g hF ⟨k, List.mem_cons_self, _, _, hk, rfl, hMk, ?_⟩
                    simp only [blkOf]
                    rw [if_neg]
                    intro hc0
                    have h1 : xs.length = 0 := by rw [hown.1]; have : m' = 0 := by omega
                                                  rw [this]; simp
                    have h2 := hden.length
                    rw [h1] at h2
                    exact hcs (List.eq_nil_of_length_eq_zero (by simpa using h2.symm))
                  · rw [← ht] at hv
                    have hj' := (List.getElem?_eq_some_iff.1 hv).1
                    rw [List.getElem?_take_of_lt (by simp at hj'; omega)] at hv
                    exact rangeAt_row hg j v hv
            · simp [joinO] at hj
              obtain ⟨rfl, rfl⟩ := hj
              simp only [Value.slice.injEq] at he
              obtain ⟨rfl, _, rfl⟩ := he
              unfold DenD
              exact ⟨_, _, rfl, Nat.le_refl _, .inl rfl, .inl rfl⟩
          · exact absurd h (by simp)
        · exact absurd h (by simp)
      · exact absurd h (by simp)
end
end Go.Proofs.YtjknjekemolndaaGreat.Abs
namespace Go.Proofs.YtjknjekemolndaaGreat.Abs
open Go Go.RowKit
set_option linter.unusedVariables false
set_option linter.unusedSimpArgs false
mutual
def mapK (g : Key → Key) : V → V
  | .ref k n => .ref (g k) n
  | .ptr k o => .ptr (g k) o
  | .adr s o => .adr (mapK g s) o
  | .agg c => .agg (mapL g c)
  | .tup c => .tup (mapL g c)
  | .fn f c => .fn f (mapL g c)
  | .sub k z o n => .sub (g k) z o n
  | .unk => .unk
  | .d x => .d x
  | .nil => .nil
def mapL (g : Key → Key) : List V → List V
  | [] => []
  | v :: r => mapK g v :: mapL g r
end
def mapE (g : Key → Key) : Ent → Ent
  | .box c => .box (mapL g c)
  | .row e n c => .row e n (mapL g c)
  | .fz n c => .fz n c
theorem mapL_d (g : Key → Key) (cs : List D) : mapL g (cs.map V.d) = cs.map V.d := by
  induction cs with
  | nil => rfl
  | cons x r ih => simp [mapL, mapK, ih]
theorem mapL_eq (g : Key → Key) (c : List V) : mapL g c = c.map (mapK g) := by
  induction c with
  | nil => rfl
  | cons x r ih => simp [mapL, ih]
theorem mapE_live (g : Key → Key) (e : Ent) : (mapE g e).live = e.live := by cases e <;> rfl
section
variable {P : Program} {N : Nat} {w0 : Base} {F0 E0 fr : Nat → Prop} {T : Nat → V} {H : Store} {a : Act} {w : World} {M : Key → Option Value} {F : Nat → Prop}
mutual
theorem DenV.mapK {M' : Key → Option Value} {g : Key → Key} (hg : ∀ k u, M k = some u → M' (g k) = some u) : ∀ {v : V} {u : Value}, DenV M F w v u → DenV M' F w (mapK g v) u
  | .unk, u, h => by unfold Abs.mapK; unfold DenV; trivial
  | .d x, u, h => by unfold Abs.mapK; unfold DenV at h ⊢; exact h
  | .nil, u, h => by unfold Abs.mapK; unfold DenV at h ⊢; exact h
  | .ref k n, u, h => by unfold Abs.mapK; unfold DenV at h ⊢; exact ⟨hg _ _ h.1, h.2⟩
  | .sub k z o n, u, h => by
    unfold Abs.mapK; unfold DenV at h ⊢
    obtain ⟨A0, n0, cap0, A, cap, h1, h2⟩ := h
    exact ⟨A0, n0, cap0, A, cap, hg _ _ h1, h2⟩
  | .ptr k o, u, h => by
    unfold Abs.mapK; unfold DenV at h ⊢
    obtain ⟨b, hb, hv⟩ := h
    exact ⟨b, hg _ _ hb, hv⟩
  | .adr s o, u, h => by
    unfold Abs.mapK; unfold DenV at h ⊢
    obtain ⟨b, o', n, cap, hv, hs⟩ := h
    exact ⟨b, o', n, cap, hv, DenV.mapK hg hs⟩
  | .agg c, u, h => by
    unfold Abs.mapK; unfold DenV at h ⊢
    obtain ⟨cs, hv, hs⟩ := h
    exact ⟨cs, hv, DenVs.mapK hg hs⟩
  | .tup c, u, h => by
    unfold Abs.mapK; unfold DenV at h ⊢
    obtain ⟨cs, hv, hs⟩ := h
    exact ⟨cs, hv, DenVs.mapK hg hs⟩
  | .fn f c, u, h => by
    unfold Abs.mapK; unfold DenV at h ⊢
    obtain ⟨cs, hv, hs⟩ := h
    exact ⟨cs, hv, DenVs.mapK hg hs⟩
theorem DenVs.mapK {M' : Key → Option Value} {g : Key → Key} (hg : ∀ k u, M k = some u → M' (g k) = some u) : ∀ {c : List V} {us : List Value}, DenVs M F w c us → DenVs M' F w (mapL g c) us
  | [], us, h => by unfold mapL; unfold DenVs at h ⊢; exact h
  | v :: c, us, h => by
    unfold mapL; unfold DenVs at h ⊢
    obtain ⟨u, r, hu, hd, hr⟩ := h
    exact ⟨u, r, hu, DenV.mapK hg hd, DenVs.mapK hg hr⟩
end
theorem EntOk.mapE {M' : Key → Option Value} {g : Key → Key} (hg : ∀ k u, M k = some u → M' (g k) = some u) {e : Ent} {u : Value} (h : EntOk P M F w e u) : EntOk P M' F w (mapE g e) u := by
  cases e with
  | box c =>
    obtain ⟨b, cs, t, rfl, hc, hd⟩ := h
    exact ⟨b, cs, t, rfl, hc, hd.mapK hg⟩
  | row e n c =>
    rcases h with ⟨xs, i, hi, hown, hd⟩ | ⟨A, h1, h2, h3⟩
    · exact .inl ⟨xs, i, hi, hown, hd.mapK hg⟩
    · exact .inr ⟨A, h1, h2, by rw [h3]; rfl⟩
  | fz n c => exact h
def noShD : D → Bool
  | .sl _ c => c.isEmpty
  | _ => true
mutual
def noSh : V → Bool
  | .d x => noShD x
  | .adr s _ => noSh s
  | .agg c => noShL c
  | .tup c => noShL c
  | .fn _ c => noShL c
  | _ => true
def noShL : List V → Bool
  | [] => true
  | v :: r => noSh v && noShL r
end
def noShE : Ent → Bool
  | .box c => noShL c
  | .row _ _ c => noShL c
  | .fz _ c => c.isEmpty
theorem noShL_all (c : List V) : noShL c = c.all noSh := by
  induction c with
  | nil => rfl
  | cons v r ih => simp [noShL, ih]
theorem DenD.noSh {F' : Nat → Prop} {x : D} {u : Value} (hx : noShD x = true) (h : DenD F w x u) : DenD F' w x u := by
  cases x with
  | sl n c =>
    have hc : c = [] := by simpa [noShD] using hx
    subst hc
    unfold DenD at h ⊢
    obtain ⟨A, cap, h1, h2, h3, _⟩ := h
    exact ⟨A, cap, h1, h2, h3, .inl rfl⟩
  | _ => unfold DenD at h ⊢; exact h
mutual
theorem DenV.noSh {F' : Nat → Prop} : ∀ {v : V} {u : Value}, Abs.noSh v = true → DenV M F w v u → DenV M F' w v u
  | .unk, u, hv, h => by unfold DenV; trivial
  | .d x, u, hv, h => by unfold DenV at h ⊢; unfold Abs.noSh at hv; exact DenD.noSh hv h
  | .nil, u, hv, h => by unfold DenV at h ⊢; exact h
  | .ref k n, u, hv, h => by unfold DenV at h ⊢; exact h
  | .ptr k o, u, hv, h => by unfold DenV at h ⊢; exact h
  | .sub k z o n, u, hv, h => by unfold DenV at h ⊢; exact h
  | .adr s o, u, hv, h => by
    unfold DenV at h ⊢; unfold Abs.noSh at hv
    obtain ⟨b, o', n, cap, hv', hs⟩ := h
    exact ⟨b, o', n, cap, hv', DenV.noSh hv hs⟩
  | .agg c, u, hv, h => by
    unfold DenV at h ⊢; unfold Abs.noSh at hv
    obtain ⟨cs, hv', hs⟩ := h
    exact ⟨cs, hv', DenVs.noSh hv hs⟩
  | .tup c, u, hv, h => by
    unfold DenV at h ⊢; unfold Abs.noSh at hv
    obtain ⟨cs, hv', hs⟩ := h
    exact ⟨cs, hv', DenVs.noSh hv hs⟩
  | .fn f c, u, hv, h => by
    unfold DenV at h ⊢; unfold Abs.noSh at hv
    obtain ⟨cs, hv', hs⟩ := h
    exact ⟨cs, hv', DenVs.noSh hv hs⟩
theorem DenVs.noSh {F' : Nat → Prop} : ∀ {c : List V} {us : List Value}, noShL c = true → DenVs M F w c us → DenVs M F' w c us
  | [], us, hv, h => by unfold DenVs at h ⊢; exact h
  | v :: c, us, hv, h => by
    unfold DenVs at h ⊢; unfold noShL at hv
    rw [Bool.and_eq_true] at hv
    obtain ⟨u, r, hu, hd, hr⟩ := h
    exact ⟨u, r, hu, DenV.noSh hv.1 hd, DenVs.noSh hv.2 hr⟩
end
theorem EntOk.noSh {F' : Nat → Prop} {e : Ent} {u : Value} (he : noShE e = true) (h : EntOk P M F w e u) : EntOk P M F' w e u := by
  cases e with
  | box c =>
    obtain ⟨b, cs, t, rfl, hc, hd⟩ := h
    exact ⟨b, cs, t, rfl, hc, hd.noSh he⟩
  | row e n c =>
    rcases h with ⟨xs, i, hi, hown, hd⟩ | h
    · exact .inl ⟨xs, i, hi, hown, hd.noSh he⟩
    · exact .inr h
  | fz n c => exact DenD.noSh (x := .sl n c) he h
theorem lendV_den {Fc : Nat → Prop} (hR : Real P M F w H) (hFc : ∀ b, Fc b → F b) {al : Bool} {n : Nat} {v v' : V} {ks : List Key} {u : Value} (h : lendV al H n v = some (v', ks)) (hL : al = true → ∀ b, Fc b → ¬ Lent H M ks b) (hu : DenV M F w v u) : DenV (fun _ => none) Fc w v' u := by
  have hd : ∀ {v : V} {v' : V}, (match lendD al H n v with | some (x, ks) => some (V.d x, ks) | none => none) = some (v', ks) → DenV M F w v u → DenV (fun _ => none) Fc w v' u := by
    intro v v' h hu
    cases hl : lendD al H n v with
    | none => rw [hl] at h; simp at h
    | some p =>
      obtain ⟨x, kk⟩ := p
      rw [hl] at h
      simp only [Option.some.injEq, Prod.mk.injEq] at h
      obtain ⟨rfl, rfl⟩ := h
      unfold DenV
      exact lendD_den hR hFc hl hL hu
  cases v with
  | agg c =>
    simp only [lendV] at h
    cases hj : joinO (c.map (lendD al H n)) with
    | none => rw [hj] at h; simp at h
    | some p =>
      obtain ⟨cs, kk⟩ := p
      rw [hj] at h
      simp only [Option.some.injEq, Prod.mk.injEq] at h
      obtain ⟨rfl, rfl⟩ := h
      unfold DenV at hu ⊢
      obtain ⟨us, rfl, hus⟩ := hu
      refine ⟨us, rfl, joinO_den (by simp) (fun j v' x' kk' u' h1 h2 h3 h4 => ?_) hus hj⟩
      rw [List.getElem?_map, h1] at h2
      simp at h2
      obtain ⟨u2, hu2, hd2⟩ := hus.get h1
      rw [h3] at hu2
      obtain rfl := Option.some.inj hu2
      exact lendD_den hR hFc h2 (fun hal b hb => fun ⟨k', hk', hx⟩ => hL hal b hb ⟨k', h4 k' hk', hx⟩) hd2
  | fn f c =>
    cases c with
    | nil =>
      simp only [lendV, Option.some.injEq, Prod.mk.injEq] at h
      obtain ⟨rfl, rfl⟩ := h
      unfold DenV at hu ⊢
      obtain ⟨cs, rfl, hcs⟩ := hu
      refine ⟨cs, rfl, ?_⟩
      unfold DenVs at hcs ⊢
      exact hcs
    | cons x r => exact hd (v := .fn f (x :: r)) h hu
  | unk => exact hd (v := .unk) h hu
  | d x => exact hd (v := .d x) h hu
  | nil => exact hd (v := .nil) h hu
  | ref k m => exact hd (v := .ref k m) h hu
  | ptr k m => exact hd (v := .ptr k m) h hu
  | adr k m => exact hd (v := .adr k m) h hu
  | tup k => exact hd (v := .tup k) h hu
  | sub k z o m => exact hd (v := .sub k z o m) h hu
theorem lendVs_den {Fc : Nat → Prop} (hR : Real P M F w H) (hFc : ∀ b, Fc b → F b) {al : Bool} {n : Nat} : ∀ {vs vs' : List V} {ks : List Key} {us : List Value}, lendVs al H n vs = some (vs', ks) → (al = true → ∀ b, Fc b → ¬ Lent H M ks b) → DenVs M F w vs us → DenVs (fun _ => none) Fc w vs' us
  | [], vs', ks, us, h, hL, hu => by
    simp [lendVs] at h
    obtain ⟨rfl, rfl⟩ := h
    unfold DenVs at hu ⊢; exact hu
  | v :: r, vs', ks, us, h, hL, hu => by
    simp only [lendVs] at h
    cases h1 : lendV al H n v with
    | none => rw [h1] at h; simp at h
    | some p =>
      obtain ⟨x, k1⟩ := p
      cases h2 : lendVs al H n r with
      | none => rw [h1, h2] at h; simp at h
      | some q =>
        obtain ⟨xs, k2⟩ := q
        rw [h1, h2] at h
        simp only [Option.some.injEq, Prod.mk.injEq] at h
        obtain ⟨rfl, rfl⟩ := h
        unfold DenVs at hu
        obtain ⟨u, us', rfl, hu1, hu2⟩ := hu
        exact DenVs.cons (lendV_den hR hFc h1 (fun hal b hb => fun ⟨k, hk, hx⟩ => hL hal b hb ⟨k, List.mem_append_left _ hk, hx⟩) hu1)
          (lendVs_den hR hFc h2 (fun hal b hb => fun ⟨k, hk, hx⟩ => hL hal b hb ⟨k, List.mem_append_right _ hk, hx⟩) hu2)
theorem lendD_keys {al : Bool} : ∀ {n : Nat} {v : V} {x : D} {ks : List Key}, lendD al H n v = some (x, ks) → ∀ k ∈ ks, (H k).isSome = true
  | 0, v, x, ks, h => by
    cases v with
    | d y => simp only [lendD, Option.some.injEq, Prod.mk.injEq] at h; obtain ⟨_, rfl⟩ := h; simp
    | nil => simp only [lendD, Option.some.injEq, Prod.mk.injEq] at h; obtain ⟨_, rfl⟩ := h; simp
    | _ => simp [lendD] at h
  | n + 1, v, x, ks, h => by
    cases v with
    | d y => simp only [lendD, Option.some.injEq, Prod.mk.injEq] at h; obtain ⟨_, rfl⟩ := h; simp
    | nil => simp only [lendD, Option.some.injEq, Prod.mk.injEq] at h; obtain ⟨_, rfl⟩ := h; simp
    | ref k m =>
      simp only [lendD] at h
      split at h
      · rename_i m' c hk
        split at h
        · simp only [Option.some.injEq, Prod.mk.injEq] at h; obtain ⟨_, rfl⟩ := h
          intro k' hk'
          obtain rfl := List.mem_singleton.1 hk'
          rw [hk]; rfl
        · exact absurd h (by simp)
      · rename_i e m' c hk
        split at h
        · split at h
          · rename_i cs ks' hj
            simp only [Option.some.injEq, Prod.mk.injEq] at h; obtain ⟨_, rfl⟩ := h
            intro k' hk'
            rcases List.mem_cons.1 hk' with rfl | hk'
            · rw [hk]; rfl
            · obtain ⟨j, x', kk, h1, h2⟩ := joinO_keys hj k' hk'
              rw [List.getElem?_map] at h1
              cases hc : c[j]? with
              | none => rw [hc] at h1; simp at h1
              | some v' => rw [hc] at h1; simp at h1; exact lendD_keys h1 k' h2
          · exact absurd h (by simp)
        · exact absurd h (by simp)
      · exact absurd h (by simp)
    | _ => simp [lendD] at h
theorem lendV_keys {al : Bool} {n : Nat} {v v' : V} {ks : List Key} (h : lendV al H n v = some (v', ks)) : ∀ k ∈ ks, (H k).isSome = true := by
  have hd : ∀ {v : V}, (match lendD al H n v with | some (x, ks) => some (V.d x, ks) | none => none) = some (v', ks) → ∀ k ∈ ks, (H k).isSome = true := by
    intro v h
    cases hl : lendD al H n v with
    | none => rw [hl] at h; simp at h
    | some p =>
      obtain ⟨x, kk⟩ := p
      rw [hl] at h
      simp only [Option.some.injEq, Prod.mk.injEq] at h
      obtain ⟨_, rfl⟩ := h
      exact lendD_keys hl
  cases v with
  | agg c =>
    simp only [lendV] at h
    cases hj : joinO (c.map (lendD al H n)) with
    | none => rw [hj] at h; simp at h
    | some p =>
      obtain ⟨cs, kk⟩ := p
      rw [hj] at h
      simp only [Option.some.injEq, Prod.mk.injEq] at h
      obtain ⟨_, rfl⟩ := h
      intro k hk
      obtain ⟨j, x', kk', h1, h2⟩ := joinO_keys hj k hk
      rw [List.getElem?_map] at h1
      cases hc : c[j]? with
      | none => rw [hc] at h1; simp at h1
      | some v' => rw [hc] at h1; simp at h1; exact lendD_keys h1 k h2
  | fn f c =>
    cases c with
    | nil => simp only [lendV, Option.some.injEq, Prod.mk.injEq] at h; obtain ⟨_, rfl⟩ := h; simp
    | cons x r => exact hd (v := .fn f (x :: r)) h
  | unk => exact hd (v := .unk) h
  | d x => exact hd (v := .d x) h
  | nil => exact hd (v := .nil) h
  | ref k m => exact hd (v := .ref k m) h
  | ptr k m => exact hd (v := .ptr k m) h
  | adr k m => exact hd (v := .adr k m) h
  | tup k => exact hd (v := .tup k) h
  | sub k z o m => exact hd (v := .sub k z o m) h
theorem lendVs_keys {al : Bool} {n : Nat} : ∀ {vs vs' : List V} {ks : List Key}, lendVs al H n vs = some (vs', ks) → ∀ k ∈ ks, (H k).isSome = true
  | [], vs', ks, h => by simp [lendVs] at h; obtain ⟨_, rfl⟩ := h; simp
  | v :: r, vs', ks, h => by
    simp only [lendVs] at h
    cases h1 : lendV al H n v with
    | none => rw [h1] at h; simp at h
    | some p =>
      obtain ⟨x, k1⟩ := p
      cases h2 : lendVs al H n r with
      | none => rw [h1, h2] at h; simp at h
      | some q =>
        obtain ⟨xs, k2⟩ := q
        rw [h1, h2] at h
        simp only [Option.some.injEq, Prod.mk.injEq] at h
        obtain ⟨rfl, rfl⟩ := h
        intro k hk
        rcases List.mem_append.1 hk with hk | hk
        · exact lendV_keys h1 k hk
        · exact lendVs_keys h2 k hk
theorem lendD_congr {H' : Store} {al : Bool} : ∀ {n : Nat} {v : V} {x : D} {ks : List Key}, lendD al H n v = some (x, ks) → (∀ k ∈ ks, H' k = H k) → lendD al H' n v = some (x, ks)
  | 0, v, x, ks, h, _ => by cases v <;> simp_all [lendD]
  | n + 1, v, x, ks, h, hk => by
    cases v with
    | ref k m =>
      simp only [lendD] at h ⊢
      have hkk : k ∈ ks := by
        split at h
        · split at h
          · simp only [Option.some.injEq, Prod.mk.injEq] at h; obtain ⟨_, rfl⟩ := h; simp
          · exact absurd h (by simp)
        · split at h
          · split at h
            · simp only [Option.some.injEq, Prod.mk.injEq] at h; obtain ⟨_, rfl⟩ := h; simp
            · exact absurd h (by simp)
          · exact absurd h (by simp)
        · exact absurd h (by simp)
      rw [hk k hkk]
      split at h
      · exact h
      · rename_i e m' c hkr
        split at h
        · rename_i hm
          rw [if_pos hm]
          split at h
          · rename_i cs ks' hj
            simp only [Option.some.injEq, Prod.mk.injEq] at h; obtain ⟨rfl, rfl⟩ := h
            have : joinO (c.map (lendD al H' n)) = joinO (c.map (lendD al H n)) := by
              have hall : ∀ (c : List V) (cs : List D) (kk : List Key), joinO (c.map (lendD al H n)) = some (cs, kk) → (∀ k' ∈ kk, H' k' = H k') → joinO (c.map (lendD al H' n)) = some (cs, kk) := by
                intro c
                induction c with
                | nil => intro cs kk h _; exact h
                | cons v r ih =>
                  intro cs kk h hkk
                  simp only [List.map_cons, joinO] at h ⊢
                  cases h1 : lendD al H n v with
                  | none => rw [h1] at h; simp at h
                  | some p =>
                    obtain ⟨x, k1⟩ := p
                    cases h2 : joinO (r.map (lendD al H n)) with
                    | none => rw [h1, h2] at h; simp at h
                    | some q =>
                      obtain ⟨xs, k2⟩ := q
                      rw [h1, h2] at h
                      simp only [Option.some.injEq, Prod.mk.injEq] at h
                      obtain ⟨rfl, rfl⟩ := h
                      rw [lendD_congr h1 (fun k' hk' => hkk k' (List.mem_append_left _ hk')), ih _ _ h2 (fun k' hk' => hkk k' (List.mem_append_right _ hk'))]
              rw [hj]
              exact hall c _ _ hj (fun k' hk' => hk k' (List.mem_cons_of_mem _ hk'))
            rw [this, hj]
          · exact absurd h (by simp)
        · exact absurd h (by simp)
      · exact absurd h (by simp)
    | d y => exact h
    | nil => exact h
    | _ => simp [lendD] at h
theorem joinO_lend_congr {H' : Store} {al : Bool} {n : Nat} : ∀ {c : List V} {cs : List D} {kk : List Key}, joinO (c.map (lendD al H n)) = some (cs, kk) → (∀ k' ∈ kk, H' k' = H k') → joinO (c.map (lendD al H' n)) = some (cs, kk)
  | [], cs, kk, h, _ => h
  | v :: r, cs, kk, h, hkk => by
    simp only [List.map_cons, joinO] at h ⊢
    cases h1 : lendD al H n v with
    | none => rw [h1] at h; simp at h
    | some p =>
      obtain ⟨x, k1⟩ := p
      cases h2 : joinO (r.map (lendD al H n)) with
      | none => rw [h1, h2] at h; simp at h
      | some q =>
        obtain ⟨xs, k2⟩ := q
        rw [h1, h2] at h
        simp only [Option.some.injEq, Prod.mk.injEq] at h
        obtain ⟨rfl, rfl⟩ := h
        rw [lendD_congr h1 (fun k' hk' => hkk k' (List.mem_append_left _ hk')), joinO_lend_congr h2 (fun k' hk' => hkk k' (List.mem_append_right _ hk'))]
theorem lendV_congr {H' : Store} {al : Bool} {n : Nat} {v v' : V} {ks : List Key} (h : lendV al H n v = some (v', ks)) (hk : ∀ k ∈ ks, H' k = H k) : lendV al H' n v = some (v', ks) := by
  have hd : ∀ {v : V}, (match lendD al H n v with | some (x, ks) => some (V.d x, ks) | none => none) = some (v', ks) → (match lendD al H' n v with | some (x, ks) => some (V.d x, ks) | none => none) = some (v', ks) := by
    intro v h
    cases hl : lendD al H n v with
    | none => rw [hl] at h; simp at h
    | some p =>
      obtain ⟨x, kk⟩ := p
      rw [hl] at h
      simp only [Option.some.injEq, Prod.mk.injEq] at h
      obtain ⟨rfl, rfl⟩ := h
      rw [lendD_congr hl hk]
  cases v with
  | agg c =>
    simp only [lendV] at h ⊢
    cases hj : joinO (c.map (lendD al H n)) with
    | none => rw [hj] at h; simp at h
    | some p =>
      obtain ⟨cs, kk⟩ := p
      rw [hj] at h
      simp only [Option.some.injEq, Prod.mk.injEq] at h
      obtain ⟨rfl, rfl⟩ := h
      rw [joinO_lend_congr hj hk]
  | fn f c =>
    cases c with
    | nil => exact h
    | cons x r => exact hd (v := .fn f (x :: r)) h
  | unk => exact hd (v := .unk) h
  | d x => exact hd (v := .d x) h
  | nil => exact hd (v := .nil) h
  | ref k m => exact hd (v := .ref k m) h
  | ptr k m => exact hd (v := .ptr k m) h
  | adr k m => exact hd (v := .adr k m) h
  | tup k => exact hd (v := .tup k) h
  | sub k z o m => exact hd (v := .sub k z o m) h
theorem lendVs_congr {H' : Store} {al : Bool} {n : Nat} : ∀ {vs vs' : List V} {ks : List Key}, lendVs al H n vs = some (vs', ks) → (∀ k ∈ ks, H' k = H k) → lendVs al H' n vs = some (vs', ks)
  | [], vs', ks, h, _ => h
  | v :: r, vs', ks, h, hk => by
    simp only [lendVs] at h ⊢
    cases h1 : lendV al H n v with
    | none => rw [h1] at h; simp at h
    | some p =>
      obtain ⟨x, k1⟩ := p
      cases h2 : lendVs al H n r with
      | none => rw [h1, h2] at h; simp at h
      | some q =>
        obtain ⟨xs, k2⟩ := q
        rw [h1, h2] at h
        simp only [Option.some.injEq, Prod.mk.injEq] at h
        obtain ⟨rfl, rfl⟩ := h
        rw [lendV_congr h1 (fun k' hk' => hk k' (List.mem_append_left _ hk')), lendVs_congr h2 (fun k' hk' => hk k' (List.mem_append_right _ hk'))]
end
end Go.Proofs.YtjknjekemolndaaGreat.Abs
namespace Go.Proofs.YtjknjekemolndaaGreat.Abs
open Go Go.RowKit
set_option linter.unusedVariables false
set_option linter.unusedSimpArgs false
structure CallOk (P : Program) (N nx s : Nat) (H : Store) (f : Nat) (vs : List V) (E : Eff) : Prop where
  enter : ∀ args w, (callFunc f args).run P w = .ok (.enter f args) w
  ups : ∀ k, E.up k ≠ none → k.1 = s ∨ k ∈ E.md
  mds : ∀ k ∈ E.md, k ∈ E.rd
  rds : ∀ k ∈ E.rd, (H k).isSome = true ∧ (k.1 < nx ∨ k.1 ∈ slotsL vs)
  run : ∀ {w0 F0 E0 fr T Hc a w M F} {us : Array Value} {dst : Option Nat}, fr s → At P N w0 F0 E0 fr T Hc a w M F → DenVs M F w vs us.toList → (∀ k ∈ E.rd, Hc k = H k) → (∀ d, dst = some d → d < N) →
    Calls P f us w fun e w' => ∃ u, e = .returned u ∧ Inv P N w0 F0 E0 (fun j => fr j ∧ j ≠ s) (putT dst E.v T) (app E.up Hc) (a.put dst u) w'
def CallJ (P : Program) (N nx s : Nat) (H : Store) (f : Nat) (vs : List V) (K : Eff → Prop) : Prop := ∃ E, K E ∧ CallOk P N nx s H f vs E
theorem slotsL_mem : ∀ {vs : List V} {v : V} {j : Nat}, v ∈ vs → j ∈ slotsV v → j ∈ slotsL vs
  | [], v, j, h, _ => absurd h (by simp)
  | x :: r, v, j, h, hj => by
    unfold slotsL
    rcases List.mem_cons.1 h with rfl | h
    · exact List.mem_append_left _ hj
    · exact List.mem_append_right _ (slotsL_mem h hj)
theorem slotsL_of : ∀ {vs : List V} {j : Nat}, j ∈ slotsL vs → ∃ v ∈ vs, j ∈ slotsV v
  | [], j, h => by unfold slotsL at h; exact absurd h (by simp)
  | x :: r, j, h => by
    unfold slotsL at h
    rcases List.mem_append.1 h with h | h
    · exact ⟨x, List.mem_cons_self, h⟩
    · obtain ⟨v, hv, hj⟩ := slotsL_of h
      exact ⟨v, List.mem_cons_of_mem _ hv, hj⟩
section
variable {P : Program} {N : Nat} {w0 : Base} {F0 E0 fr : Nat → Prop} {T : Nat → V} {H : Store} {a : Act} {w : World} {M : Key → Option Value} {F : Nat → Prop}
theorem DenVs.map_eval {ρ : Operand → V} {xs : List Operand} (h : ∀ x ∈ xs, DenV M F w (ρ x) (a.eval x)) : DenVs M F w (xs.map ρ) (xs.map a.eval) := by
  induction xs with
  | nil => exact DenVs.nil
  | cons x r ih => exact DenVs.cons (h x List.mem_cons_self) (ih fun y hy => h y (List.mem_cons_of_mem _ hy))
theorem callS_sound {nx s : Nat} {o : Oper} {ρ : Operand → V} {f : Nat} {args : Array Operand} {ts : Array TypeId} (ho : o.op = .call ⟨.value (.func f), args, ts⟩) {K : Eff → Prop} (h : CallJ P N nx s H f (args.toList.map ρ) K) : ∃ E, K E ∧ OpOk P N nx s H o ρ E := by
  obtain ⟨E, hk, hok⟩ := h
  have hmem : ∀ x ∈ args.toList, x ∈ o.op.operands := fun x hx => by simp [ho, Op.operands, Call.operands]; right; simpa using hx
  refine ⟨E, hk, hok.ups, hok.mds, fun k hk' => ⟨(hok.rds k hk').1, (hok.rds k hk').2.imp id fun h => ?_⟩, fun {w0 F0 E0 fr T Hc a w M F} hs hat hρ hH hd Q => ?_⟩
  · obtain ⟨v, hv, hj⟩ := slotsL_of h
    obtain ⟨x, hx, rfl⟩ := List.mem_map.1 hv
    exact ⟨x, hmem x hx, hj⟩
  · have hc := hok.run (us := args.map a.eval) (dst := o.dst) hs hat (by rw [Array.toList_map]; exact DenVs.map_eval fun x hx => hρ x (hmem x hx)) hH hd
    unfold Oper.wp
    have hr : (execOp a.eval o).run P w = .ok (.enter f (args.map a.eval)) w := by
      simp only [execOp, ho, resolve, Act.eval, Deferred.ofValue, Sem.run_bind, Sem.run_pure, Result.andThen_ok, invoke, Array.append_empty, Array.empty_append, hok.enter]
    rw [hr, Oper.upon_enter]
    refine hc.mono ?_
    rintro e w' ⟨u, rfl, hi⟩
    exact hi
theorem callT_sound {nx s : Nat} {o : Oper} {ρ : Operand → V} {f t : Nat} {args : Array Operand} {ts : Array TypeId} (ho : o.op = .call ⟨.value (.tmp t), args, ts⟩) (hf : ρ (.tmp t) = .fn f []) {K : Eff → Prop} (h : CallJ P N nx s H f (args.toList.map ρ) K) : ∃ E, K E ∧ OpOk P N nx s H o ρ E := by
  obtain ⟨E, hk, hok⟩ := h
  have hmem : ∀ x ∈ args.toList, x ∈ o.op.operands := fun x hx => by simp [ho, Op.operands, Call.operands]; right; simpa using hx
  have hmt : Operand.tmp t ∈ o.op.operands := by simp [ho, Op.operands, Call.operands]
  refine ⟨E, hk, hok.ups, hok.mds, fun k hk' => ⟨(hok.rds k hk').1, (hok.rds k hk').2.imp id fun h => ?_⟩, fun {w0 F0 E0 fr T Hc a w M F} hs hat hρ hH hd Q => ?_⟩
  · obtain ⟨v, hv, hj⟩ := slotsL_of h
    obtain ⟨x, hx, rfl⟩ := List.mem_map.1 hv
    exact ⟨x, hmem x hx, hj⟩
  · have hc := hok.run (us := args.map a.eval) (dst := o.dst) hs hat (by rw [Array.toList_map]; exact DenVs.map_eval fun x hx => hρ x (hmem x hx)) hH hd
    have hfv := hρ _ hmt
    rw [hf] at hfv
    unfold DenV at hfv
    obtain ⟨cs, he, hcs⟩ := hfv
    have hcs0 : cs = #[] := by
      have := hcs.length
      apply Array.ext'
      simpa [eq_comm] using this
    subst hcs0
    unfold Oper.wp
    have hr : (execOp a.eval o).run P w = .ok (.enter f (args.map a.eval)) w := by
      simp only [execOp, ho, resolve, he, Deferred.ofValue, Sem.run_bind, Sem.run_pure, Result.andThen_ok, invoke, Array.append_empty, Array.empty_append, hok.enter]
    rw [hr, Oper.upon_enter]
    refine hc.mono ?_
    rintro e w' ⟨u, rfl, hi⟩
    exact hi
def atS (s : Nat) (k : Key) : Key := (s, k.2)
def upCall (s : Nat) (Hr : Store) : Key → Option (Option Ent) := fun k => if k.1 = s then match Hr (0, k.2) with
    | some e => some (some (mapE (atS s) e))
    | none => none
  else none
theorem upCall_emp (s : Nat) : upCall s hemp = noUp := by
  funext k
  unfold upCall hemp noUp
  split <;> rfl
theorem At.called (hat : At P N w0 F0 E0 fr T H a w M F) {s : Nat} (hs : fr s) {dst : Option Nat} (hd : ∀ d, dst = some d → d < N) {r : V} {u : Value} {Hr : Store} {w' : World} {M' : Key → Option Value} {F2 : Nat → Prop}
    (hc : Chg (fun _ => False) w w') (hF1 : ∀ b, F2 b → F b ∨ w.heap.size ≤ b) (hF2 : ∀ b, F b → b < w.heap.size → F2 b)
    (hM0 : ∀ k : Key, k.1 ≠ 0 → M' k = none)
    (hr : DenV M' F2 w' r u) (hR : Real P M' F2 w' Hr) (hnew : ∀ k e u b, Hr k = some e → e.live = true → M' k = some u → blkOf u = some b → w.heap.size ≤ b) :
    Inv P N w0 F0 E0 (fun j => fr j ∧ j ≠ s) (putT dst (mapK (atS s) r) T) (app (upCall s Hr) H) (a.put dst u) w' := by
  let M2 : Key → Option Value := fun k => if k.1 = s then M' (0, k.2) else M k
  have hM : ∀ k x, M k = some x → M2 k = some x := by
    intro k x hk
    show (if k.1 = s then M' (0, k.2) else M k) = some x
    rw [if_neg (fun e => by rw [hat.free k (by rw [e]; exact hs)] at hk; exact absurd hk (by simp))]
    exact hk
  have hg : ∀ k x, M' k = some x → M2 (atS s k) = some x := by
    intro k x hk
    show (if s = s then M' (0, k.2) else M (s, k.2)) = some x
    rw [if_pos rfl]
    by_cases h0 : k.1 = 0
    · have : k = (0, k.2) := by rw [← h0]
      rw [← this]; exact hk
    · rw [hM0 k h0] at hk; exact absurd hk (by simp)
  have hh : Holds F F2 w w' := ⟨hF1, fun b _ hl => hc.block b (fun h => h) hl⟩
  have hget : ∀ k e, app (upCall s Hr) H k = some e → (k.1 = s ∧ ∃ e0, Hr (0, k.2) = some e0 ∧ e = mapE (atS s) e0) ∨ (k.1 ≠ s ∧ H k = some e) := by
    intro k e hk
    unfold app upCall at hk
    by_cases hks : k.1 = s
    · rw [if_pos hks] at hk
      cases h0 : Hr (0, k.2) with
      | none =>
        rw [h0] at hk
        simp only at hk
        obtain ⟨x, hx, _⟩ := hat.real.ent k e hk
        rw [hat.free k (by rw [hks]; exact hs)] at hx
        exact absurd hx (by simp)
      | some e0 =>
        rw [h0] at hk
        simp only [Option.some.injEq] at hk
        exact .inl ⟨hks, e0, rfl, hk.symm⟩
    · rw [if_neg hks] at hk
      exact .inr ⟨hks, hk⟩
  have hM2s : ∀ k : Key, k.1 = s → M2 k = M' (0, k.2) := fun k hk => by show (if k.1 = s then M' (0, k.2) else M k) = _; rw [if_pos hk]
  have hM2o : ∀ k : Key, k.1 ≠ s → M2 k = M k := fun k hk => by show (if k.1 = s then M' (0, k.2) else M k) = _; rw [if_neg hk]
  refine hat.step (M' := M2) (F' := F2) hd hM hM2o (fun b h1 h2 => hF2 b (hat.keep b h1 h2) (Nat.lt_of_lt_of_le (hat.lt0 b h1) hat.chg.size)) hh ⟨?_, ?_⟩ (hr.mapK hg) hc (fun _ h => h.elim) ?_
  · intro k e hk
    rcases hget k e hk with ⟨hks, e0, h0, rfl⟩ | ⟨hks, hk⟩
    · obtain ⟨x, hx, hok, hF⟩ := hR.ent _ _ h0
      exact ⟨x, by rw [hM2s k hks]; exact hx, hok.mapE hg, fun hl => hF (by rw [mapE_live] at hl; exact hl)⟩
    · obtain ⟨x, hx, hok, hF⟩ := hat.real.ent _ _ hk
      exact ⟨x, by rw [hM2o k hks]; exact hx, hok.move hM hh (fun hl b hb => hc.block b (fun h => h) (hok.blk_lt hl hb)), fun hl b hb => hF2 b (hF hl b hb) (hok.blk_lt hl hb)⟩
  · intro k k' e e' x x' b hk hk' hl hl' hx hx' hb hb'
    rcases hget k e hk with ⟨hks, e0, h0, rfl⟩ | ⟨hks, hk⟩ <;> rcases hget k' e' hk' with ⟨hks', e0', h0', rfl⟩ | ⟨hks', hk'⟩
    · rw [hM2s k hks] at hx
      rw [hM2s k' hks'] at hx'
      have := hR.inj _ _ _ _ _ _ b h0 h0' (by rw [mapE_live] at hl; exact hl) (by rw [mapE_live] at hl'; exact hl') hx hx' hb hb'
      have h2 : k.2 = k'.2 := by injection this
      exact Prod.ext (by rw [hks, hks']) h2
    · rw [hM2s k hks] at hx
      rw [hM2o k' hks'] at hx'
      have h1 := hnew _ _ _ b h0 (by rw [mapE_live] at hl; exact hl) hx hb
      obtain ⟨y, hy, hok, _⟩ := hat.real.ent _ _ hk'
      rw [hx'] at hy
      obtain rfl := Option.some.inj hy
      have := hok.blk_lt hl' hb'
      omega
    · rw [hM2o k hks] at hx
      rw [hM2s k' hks'] at hx'
      have h1 := hnew _ _ _ b h0' (by rw [mapE_live] at hl'; exact hl') hx' hb'
      obtain ⟨y, hy, hok, _⟩ := hat.real.ent _ _ hk
      rw [hx] at hy
      obtain rfl := Option.some.inj hy
      have := hok.blk_lt hl hb
      omega
    · rw [hM2o k hks] at hx
      rw [hM2o k' hks'] at hx'
      exact hat.real.inj _ _ _ _ _ _ b hk hk' hl hl' hx hx' hb hb'
  · intro k e x b hk hl hx hb
    rcases hget k e hk with ⟨hks, e0, h0, rfl⟩ | ⟨hks, hk⟩
    · rw [hM2s k hks] at hx
      have h1 := hnew _ _ _ b h0 (by rw [mapE_live] at hl; exact hl) hx hb
      right
      have := hat.chg.size
      omega
    · rw [hM2o k hks] at hx
      exact hat.reach k e x b hk hl hx hb
theorem upCall_ups {s : Nat} {Hr : Store} : ∀ k : Key, upCall s Hr k ≠ none → k.1 = s ∨ k ∈ ([] : List Key) := by
  intro k hk
  unfold upCall at hk
  by_cases h : k.1 = s
  · exact .inl h
  · rw [if_neg h] at hk; exact absurd rfl hk
theorem Real.mono {F' : Nat → Prop} {Hr : Store} (h : Real P M F w Hr) (hF : ∀ b, F' b → F b) (hl : ∀ k e u b, Hr k = some e → e.live = true → M k = some u → blkOf u = some b → F' b) : Real P M F' w Hr :=
  ⟨fun k e hk => by
    obtain ⟨u, hu, hok, _⟩ := h.ent k e hk
    exact ⟨u, hu, hok.move (fun _ _ h => h) ⟨fun b hb => .inl (hF b hb), fun _ _ _ => rfl⟩ (fun _ _ _ => rfl), fun hlv b hb => hl k e u b hk hlv hu hb⟩, h.inj⟩
theorem CallJ.pure {nx s f : Nat} {vs vs' : List V} {ks : List Key} {r : V} {Hr : Store} {K : Eff → Prop} (h : Cn P f vs' r Hr) (hl : lendVs false H 3 vs = some (vs', ks)) (hs : ∀ k ∈ ks, k.1 < nx ∨ k.1 ∈ slotsL vs)
    (hk : K ⟨mapK (atS s) r, ks, [], upCall s Hr⟩) : CallJ P N nx s H f vs K := by
  refine ⟨_, hk, h.enter, upCall_ups, fun k hk => absurd hk (by simp), fun k hk => ⟨lendVs_keys hl k hk, hs k hk⟩, fun {w0 F0 E0 fr T Hc a w M F us dst} hfr hat hden hH hd => ?_⟩
  let Fc : Nat → Prop := fun b => F b ∧ b < w.heap.size
  have hl' := lendVs_congr (H' := Hc) hl hH
  refine (h.run w Fc us (fun b hb => hb.2) (lendVs_den hat.real (fun b hb => hb.1) hl' (fun h => absurd h (by simp)) hden)).mono ?_
  rintro e w' ⟨v, M', F', rfl, hFF, hr, hR, hc, hnew, hM0⟩
  refine ⟨v, rfl, hat.called (F2 := fun b => F' b ∧ (F b ∨ w.heap.size ≤ b)) hfr hd hc (fun b hb => hb.2) (fun b h1 h2 => ⟨hFF b ⟨h1, h2⟩, .inl h1⟩) hM0 ?_ ?_ hnew⟩
  · exact hr.move (fun _ _ h => h) ⟨fun b hb => .inl hb.1, fun _ _ _ => rfl⟩
  · refine hR.mono (fun b hb => hb.1) fun k e u b h1 h2 h3 h4 => ⟨?_, .inr (hnew k e u b h1 h2 h3 h4)⟩
    obtain ⟨u', hu', _, hF⟩ := hR.ent k e h1
    rw [h3] at hu'
    obtain rfl := Option.some.inj hu'
    exact hF h2 b h4
theorem CallJ.lent {nx s f : Nat} {vs vs' : List V} {ks : List Key} {r : V} {Hr : Store} {K : Eff → Prop} (n : Nat) (h : Cn P f vs' r Hr) (hl : lendVs true H n vs = some (vs', ks)) (hs : ∀ k ∈ ks, k.1 < nx ∨ k.1 ∈ slotsL vs)
    (hn : noSh r = true) (hE : ∀ k e, Hr k = some e → noShE e = true)
    (hk : K ⟨mapK (atS s) r, ks, [], upCall s Hr⟩) : CallJ P N nx s H f vs K := by
  refine ⟨_, hk, h.enter, upCall_ups, fun k hk => absurd hk (by simp), fun k hk => ⟨lendVs_keys hl k hk, hs k hk⟩, fun {w0 F0 E0 fr T Hc a w M F us dst} hfr hat hden hH hd => ?_⟩
  have hl' := lendVs_congr (H' := Hc) hl hH
  refine (h.run w (fun _ => False) us (fun b hb => hb.elim) (lendVs_den hat.real (fun b hb => hb.elim) hl' (fun _ b hb => hb.elim) hden)).mono ?_
  rintro e w' ⟨v, M', F', rfl, hFF, hr, hR, hc, hnew, hM0⟩
  refine ⟨v, rfl, hat.called (F2 := fun b => (F b ∧ b < w.heap.size) ∨ (F' b ∧ w.heap.size ≤ b)) hfr hd hc (fun b hb => hb.elim (fun h => .inl h.1) (fun h => .inr h.2)) (fun b h1 h2 => .inl ⟨h1, h2⟩) hM0 (hr.noSh hn) ⟨fun k e hk => ?_, hR.inj⟩ hnew⟩
  obtain ⟨u, hu, hok, hF⟩ := hR.ent k e hk
  exact ⟨u, hu, hok.noSh (hE k e hk), fun hl b hb => .inr ⟨hF hl b hb, hnew k e u b hk hl hu hb⟩⟩
theorem Real.freeze {k0 : Key} {t : TypeId} {n : Nat} {c : List V} {c' : List D} (hR : Real P M F w H) (hk : H k0 = some (.row t n c)) (hc : asDs c = some c') :
    Real P M (fun b => F b ∧ ¬ ∃ u, M k0 = some u ∧ blkOf u = some b) w (setH k0 (some (.fz n c')) H) := by
  have hF1 : ∀ b, (F b ∧ ¬ ∃ u, M k0 = some u ∧ blkOf u = some b) → F b := fun b hb => hb.1
  have hget : ∀ k e, setH k0 (some (.fz n c')) H k = some e → (k = k0 ∧ e = .fz n c') ∨ (k ≠ k0 ∧ H k = some e) := fun k e h => by
    unfold setH at h
    split at h
    · rename_i h1; exact .inl ⟨h1, (Option.some.inj h).symm⟩
    · rename_i h1; exact .inr ⟨h1, h⟩
  constructor
  · intro k e he
    rcases hget k e he with ⟨rfl, rfl⟩ | ⟨hne, he⟩
    · obtain ⟨u, hu, hok, hFu⟩ := hR.ent _ _ hk
      refine ⟨u, hu, ?_, fun h => absurd h (by simp [Ent.live])⟩
      have hnot : ∀ b, blkOf u = some b → ¬ (F b ∧ ¬ ∃ u, M k = some u ∧ blkOf u = some b) := fun b hb hf => hf.2 ⟨u, hu, hb⟩
      show DenD _ w (.sl n c') u
      unfold DenD
      rcases hok with ⟨xs, i, hi', hown, hd⟩ | ⟨A, rfl, rfl, rfl⟩
      · rcases hown.2 with ⟨rfl, rfl⟩ | ⟨g, cap, cur, rfl, _, hg, hnc, _, hsz, ht⟩
        · have h1 : xs.length = 0 := by rw [hown.1]; simp
          have h2 : c = [] := List.eq_nil_of_length_eq_zero (by rw [← hd.length, h1])
          subst h2
          simp [asDs] at hc
          subst hc
          exact ⟨_, _, rfl, Nat.le_refl _, .inl rfl, .inl rfl⟩
        · refine ⟨_, _, rfl, hnc, .inr ⟨_, _, rfl⟩, ?_⟩
          by_cases hc0 : c' = []
          · exact .inl hc0
          · right
            have hd' : DenVs M (fun b => F b ∧ ¬ ∃ u, M k = some u ∧ blkOf u = some b) w (c'.map V.d) xs := (asDs_den hc hd).move (fun _ _ h => h) ⟨fun b hb => .inl (hF1 b hb), fun _ _ _ => rfl⟩
            refine ⟨g, 0, rfl, hnot g ?_, DenDs.of_values (M := M) (fun j v hv => ?_) hd'⟩
            · simp only [blkOf]
              rw [if_neg]
              intro h0
              have h1 : xs.length = 0 := by rw [hown.1, show n = 0 by omega]; simp
              have h2 := hd'.length
              rw [h1] at h2
              exact hc0 (List.eq_nil_of_length_eq_zero (by simpa using h2.symm))
            · rw [← ht] at hv
              have hj := (List.getElem?_eq_some_iff.1 hv).1
              rw [List.getElem?_take_of_lt (by simp at hj; omega)] at hv
              exact rangeAt_row hg j v hv
      · simp [asDs] at hc
        subst hc
        exact ⟨_, _, rfl, Nat.le_refl _, .inl rfl, .inl rfl⟩
    · obtain ⟨u, hu, hok, hFu⟩ := hR.ent _ _ he
      refine ⟨u, hu, hok.move (fun _ _ h => h) ⟨fun b hb => .inl (hF1 b hb), fun _ _ _ => rfl⟩ (fun _ _ _ => rfl), fun hl b hb => ⟨hFu hl b hb, ?_⟩⟩
      rintro ⟨u2, hu2, hb2⟩
      exact hne (hR.inj _ _ _ _ _ _ b he hk hl rfl hu hu2 hb hb2)
  · intro k k' e e' u u' b h1 h2 hl hl' hu hu' hb hb'
    rcases hget k e h1 with ⟨_, rfl⟩ | ⟨_, h1⟩
    · exact absurd hl (by simp [Ent.live])
    rcases hget k' e' h2 with ⟨_, rfl⟩ | ⟨_, h2⟩
    · exact absurd hl' (by simp [Ent.live])
    exact hR.inj _ _ _ _ _ _ b h1 h2 hl hl' hu hu' hb hb'
theorem At.freeze {k0 : Key} {t : TypeId} {n : Nat} {c : List V} {c' : List D} (h : At P N w0 F0 E0 fr T H a w M F) (hk : H k0 = some (.row t n c)) (hc : asDs c = some c') :
    At P N w0 F0 E0 fr T (setH k0 (some (.fz n c')) H) a w M (fun b => F b ∧ ¬ ∃ u, M k0 = some u ∧ blkOf u = some b) := by
  refine ⟨fun b h0 h1 => ⟨h.keep b h0 h1, ?_⟩, h.real.freeze hk hc, fun j => (h.tmps j).move (fun _ _ h => h) ⟨fun b hb => .inl hb.1, fun _ _ _ => rfl⟩, h.free, fun k e u b he hl hu hb => ?_, h.defers, h.size, h.chg, h.lt0, h.base⟩
  · rintro ⟨u, hu, hb⟩
    rcases h.reach _ _ u b hk rfl hu hb with h2 | h2
    · exact h1 h2
    · have := h.lt0 b h0
      omega
  · unfold setH at he
    split at he
    · obtain rfl := Option.some.inj he
      exact absurd hl (by simp [Ent.live])
    · exact h.reach _ _ u b he hl hu hb
def upFz (s : Nat) (Hr : Store) (k0 : Key) (e : Ent) : Key → Option (Option Ent) := fun k => match upCall s Hr k with
  | some x => some x
  | none => if k = k0 then some (some e) else none
theorem app_upFz (s : Nat) (Hr : Store) (k0 : Key) (e : Ent) (H : Store) : app (upFz s Hr k0 e) H = app (upCall s Hr) (setH k0 (some e) H) := by
  funext k
  unfold app upFz
  cases upCall s Hr k with
  | some x => rfl
  | none =>
    simp only []
    unfold setH
    by_cases h : k = k0
    · rw [if_pos h, if_pos h]
    · rw [if_neg h, if_neg h]
theorem CallJ.frz {nx s f : Nat} {vs vs' : List V} {ks : List Key} {r : V} {Hr : Store} {K : Eff → Prop} {t : TypeId} {n : Nat} {c : List V} {c' : List D} (k0 : Key) (h : Cn P f vs' r Hr) (hk0 : H k0 = some (.row t n c)) (hc : asDs c = some c')
    (hl : lendVs false (setH k0 (some (.fz n c')) H) 3 vs = some (vs', ks)) (hs : ∀ k ∈ k0 :: ks, k.1 < nx ∨ k.1 ∈ slotsL vs)
    (hk : K ⟨mapK (atS s) r, k0 :: ks, [k0], upFz s Hr k0 (.fz n c')⟩) : CallJ P N nx s H f vs K := by
  refine ⟨_, hk, h.enter, fun k hk => ?_, fun k hk => ?_, fun k hk => ⟨?_, hs k hk⟩, fun {w0 F0 E0 fr T Hc a w M F us dst} hfr hat hden hH hd => ?_⟩
  · simp only [upFz] at hk
    cases hu : upCall s Hr k with
    | some x => exact .inl ((upCall_ups k (by rw [hu]; simp)).resolve_right (by simp))
    | none =>
      rw [hu] at hk
      simp only at hk
      split at hk
      · rename_i h1; exact .inr (by simp [h1])
      · exact absurd rfl hk
  · simp at hk; simp [hk]
  · rcases List.mem_cons.1 hk with rfl | hk
    · rw [hk0]; rfl
    · have := lendVs_keys hl k hk
      unfold setH at this
      split at this
      · rename_i h1; rw [h1, hk0]; rfl
      · exact this
  · have hk0' : Hc k0 = some (.row t n c) := by rw [hH k0 (by simp)]; exact hk0
    have hat := hat.freeze hk0' hc
    have hl' := lendVs_congr (H' := setH k0 (some (.fz n c')) Hc) hl (fun k hk => by
      unfold setH
      split
      · rfl
      · exact hH k (List.mem_cons_of_mem _ hk))
    have hden : DenVs M (fun b => F b ∧ ¬ ∃ u, M k0 = some u ∧ blkOf u = some b) w vs us.toList := hden.move (fun _ _ h => h) ⟨fun b hb => .inl hb.1, fun _ _ _ => rfl⟩
    generalize (fun b => F b ∧ ¬ ∃ u, M k0 = some u ∧ blkOf u = some b) = F at hat hden
    simp only [app_upFz]
    generalize setH k0 (some (.fz n c')) Hc = Hc at hat hl'
    let Fc : Nat → Prop := fun b => F b ∧ b < w.heap.size
    refine (h.run w Fc us (fun b hb => hb.2) (lendVs_den hat.real (fun b hb => hb.1) hl' (fun h => absurd h (by simp)) hden)).mono ?_
    rintro e w' ⟨v, M', F', rfl, hFF, hr, hR, hc, hnew, hM0⟩
    refine ⟨v, rfl, hat.called (F2 := fun b => F' b ∧ (F b ∨ w.heap.size ≤ b)) hfr hd hc (fun b hb => hb.2) (fun b h1 h2 => ⟨hFF b ⟨h1, h2⟩, .inl h1⟩) hM0 ?_ ?_ hnew⟩
    · exact hr.move (fun _ _ h => h) ⟨fun b hb => .inl hb.1, fun _ _ _ => rfl⟩
    · refine hR.mono (fun b hb => hb.1) fun k e u b h1 h2 h3 h4 => ⟨?_, .inr (hnew k e u b h1 h2 h3 h4)⟩
      obtain ⟨u', hu', _, hF⟩ := hR.ent k e h1
      rw [h3] at hu'
      obtain rfl := Option.some.inj hu'
      exact hF h2 b h4
end
end Go.Proofs.YtjknjekemolndaaGreat.Abs
namespace Go.Proofs.YtjknjekemolndaaGreat.Abs
open Go Go.RowKit
set_option linter.unusedVariables false
set_option linter.unusedSimpArgs false
def ownT (O : List Nat) (d : Option Nat) : Bool := match d with
  | some d => O.contains d
  | none => false
def fnS (v : V) (K : Nat → Prop) : Prop := match v with
  | .fn f [] => K f
  | _ => False
def opS (P : Program) (N : Nat) (O : List Nat) (nx s : Nat) (H : Store) (o : Oper) (ρ : Operand → V) (K : Eff → Prop) : Prop := match o.op with
  | .load t p => loadS P H t (ρ p) K
  | .store t p x => storeS P H t (ρ p) (ρ x) K
  | .alloc t => allocS P s t K
  | .box _ x => boxS s (ρ x) K
  | .buildSlice t len ps => buildS P (ownT O o.dst) s t len (ps.toList.map fun p => (p.1, ρ p.2)) K
  | .makeSlice t l c => makeS P s t (ρ l) (ρ c) K
  | .call ⟨.builtin .append, args, ts⟩ => match args.toList, ts.toList with
    | [b, x], [t, t'] => t' = t ∧ appendS P H s t (ρ b) (ρ x) K
    | _, _ => False
  | .call ⟨.builtin .copy, args, ts⟩ => match args.toList, ts.toList with
    | [b, x], [t, _] => copyS P H t (ρ b) (ρ x) K
    | _, _ => False
  | .call ⟨.value (.func f), args, _⟩ => CallJ P N nx s H f (args.toList.map ρ) K
  | .call ⟨.value (.tmp t), args, _⟩ => fnS (ρ (.tmp t)) fun f => CallJ P N nx s H f (args.toList.map ρ) K
  | op => valS P op ρ fun v => K ⟨v, [], [], noUp⟩
def valB : Op → Bool
  | .move _ | .assign _ | .pick .. | .build .. | .binOp .. | .unOp .. | .convert .. | .fieldAddr .. | .field .. | .indexAddr .. | .index .. | .slice .. | .extract .. | .nilCheck _ => true
  | .call ⟨.builtin .len, _, _⟩ | .call ⟨.builtin .max, _, _⟩ | .call ⟨.builtin .min, _, _⟩ => true
  | _ => false
theorem opS_sound {P : Program} {N : Nat} {O : List Nat} {nx s : Nat} {H : Store} {o : Oper} {ρ : Operand → V} {K : Eff → Prop} (h : opS P N O nx s H o ρ K) :
    ∃ E, K E ∧ OpOk P N nx s H o ρ E ∧ (valB o.op = true → E.rd = [] ∧ E.md = [] ∧ E.up = noUp) := by
  have hval : valS P o.op ρ (fun v => K ⟨v, [], [], noUp⟩) → ∃ E, K E ∧ OpOk P N nx s H o ρ E ∧ (valB o.op = true → E.rd = [] ∧ E.md = [] ∧ E.up = noUp) := by
    intro h
    obtain ⟨v, hk, hv⟩ := valS_sound h
    exact ⟨_, hk, OpOk.of_val hv, fun _ => ⟨rfl, rfl, rfl⟩⟩
  unfold opS at h
  split at h
  · rename_i t p ho
    obtain ⟨E, h1, h2⟩ := loadS_sound ho h
    exact ⟨E, h1, h2, fun hv => by rw [ho] at hv; exact absurd hv (by simp [valB])⟩
  · rename_i t p x ho
    obtain ⟨E, h1, h2⟩ := storeS_sound ho h
    exact ⟨E, h1, h2, fun hv => by rw [ho] at hv; exact absurd hv (by simp [valB])⟩
  · rename_i t ho
    obtain ⟨E, h1, h2⟩ := allocS_sound ho h
    exact ⟨E, h1, h2, fun hv => by rw [ho] at hv; exact absurd hv (by simp [valB])⟩
  · rename_i t x ho
    obtain ⟨E, h1, h2⟩ := boxS_sound ho h
    exact ⟨E, h1, h2, fun hv => by rw [ho] at hv; exact absurd hv (by simp [valB])⟩
  · rename_i t len ps ho
    obtain ⟨E, h1, h2⟩ := buildS_sound ho h
    exact ⟨E, h1, h2, fun hv => by rw [ho] at hv; exact absurd hv (by simp [valB])⟩
  · rename_i t l c ho
    obtain ⟨E, h1, h2⟩ := makeS_sound ho h
    exact ⟨E, h1, h2, fun hv => by rw [ho] at hv; exact absurd hv (by simp [valB])⟩
  · rename_i args ts ho
    split at h
    · rename_i b x t t' h1 h2
      obtain ⟨rfl, h⟩ := h
      have e1 : args = #[b, x] := by apply Array.ext'; rw [h1]
      have e2 : ts = #[t', t'] := by apply Array.ext'; rw [h2]
      subst e1; subst e2
      obtain ⟨E, h1, h2⟩ := appendS_sound ho h
      exact ⟨E, h1, h2, fun hv => by rw [ho] at hv; exact absurd hv (by simp [valB])⟩
    · exact h.elim
  · rename_i args ts ho
    split at h
    · rename_i b x t t' h1 h2
      have e1 : args = #[b, x] := by apply Array.ext'; rw [h1]
      have e2 : ts = #[t, t'] := by apply Array.ext'; rw [h2]
      subst e1; subst e2
      obtain ⟨E, h1, h2⟩ := copyS_sound ho h
      exact ⟨E, h1, h2, fun hv => by rw [ho] at hv; exact absurd hv (by simp [valB])⟩
    · exact h.elim
  · rename_i f args ts ho
    obtain ⟨E, h1, h2⟩ := callS_sound ho h
    exact ⟨E, h1, h2, fun hv => by rw [ho] at hv; exact absurd hv (by simp [valB])⟩
  · rename_i t args ts ho
    unfold fnS at h
    split at h
    · rename_i f hf
      obtain ⟨E, h1, h2⟩ := callT_sound ho hf h
      exact ⟨E, h1, h2, fun hv => by rw [ho] at hv; exact absurd hv (by simp [valB])⟩
    · exact h.elim
  · exact hval h
def Ext (o : Oper) (ρ : Operand → V) (E : Eff) : Prop := match o.op with
  | .load _ p => E.rd = keyAt (ρ p) ∧ E.up = noUp
  | .fieldAddr _ x _ => keyAt E.v = keyAt (ρ x)
  | .alloc _ => E.rd = [] ∧ E.md = []
  | _ => True
theorem partV_mono {I : TI} {c : List V} {o : Nat} {f g : V → Prop} (hfg : ∀ v, f v → g v) (h : partV I c o f) : partV I c o g := by
  unfold partV at h ⊢
  repeat' split at h
  all_goals first | exact h.elim | simp_all
theorem keyAt_adr (s : V) (p q : Nat) : keyAt (.adr s p) = keyAt (.adr s q) := by cases s <;> rfl
theorem opS_ext {P : Program} {N : Nat} {O : List Nat} {nx s : Nat} {H : Store} {o : Oper} {ρ : Operand → V} {K : Eff → Prop} (h : opS P N O nx s H o ρ K) : opS P N O nx s H o ρ (fun E => K E ∧ Ext o ρ E) := by
  obtain ⟨dst, op, ty, pos, af, gd⟩ := o
  cases op with
  | load t p =>
    simp only [opS, Ext, loadS] at h ⊢
    split at h
    · rename_i c o I hc hI
      exact partV_mono (fun v hv => ⟨hv, by simp⟩) h
    · exact h.elim
  | alloc t =>
    simp only [opS, Ext, allocS] at h ⊢
    repeat' split at h
    all_goals first | exact h.elim | skip
    all_goals simp_all
  | fieldAddr t x f =>
    simp only [opS, Ext, valS] at h ⊢
    repeat' split at h
    all_goals first | exact h.elim | exact h.2.elim | skip
    all_goals rename_i hx
    all_goals rw [hx]
    all_goals first | exact ⟨h.1, h.2, rfl⟩ | exact ⟨h.1, h.2, keyAt_adr _ _ _⟩
  | _ => simpa only [Ext, and_true] using h
def freshBase (ops : Array Oper) (b : Operand) : Bool := match b with
  | .tmp t => ops.any fun o => o.dst == some t && (match o.op with | .buildSlice _ 0 _ => true | _ => false)
  | _ => false
def noisyS (ops : Array Oper) (op : Op) : Bool := match op with
  | .store .. => true
  | .call ⟨.builtin .append, args, _⟩ => match args[0]? with
    | some b => !freshBase ops b
    | none => true
  | .call ⟨.builtin .copy, _, _⟩ => true
  | _ => false
def dstB (N : Nat) (o : Oper) : Bool := match o.dst with
  | some d => decide (d < N)
  | none => true
def maskOf (acc : List Nat) (o : Oper) : Nat := o.after.toList.foldr (fun e s => if Region.binds .any e = true then 2 ^ e.on ||| acc.getD e.on 0 ||| s else s) 0
def masks : List Oper → List Nat → List Nat
  | [], acc => acc
  | o :: r, acc => masks r (acc ++ [maskOf acc o])
def befB (B : List Nat) (i j : Nat) : Bool := (B.getD j 0).testBit i
def rootOf (ops : Array Oper) (i : Nat) : Operand → Option Nat
  | .tmp t => if ops.all (fun o => o.dst != some t) then some t else
    (List.range i).findSome? fun (m : Nat) => match (ops[m]? : Option Oper) with
      | some { dst := some d, op := .fieldAddr _ (.tmp b) _, guard := none, .. } => if d = t ∧ ops.all (fun o => o.dst != some b) = true ∧ ((List.range ops.size).all fun m' => m' == m || ((ops[m']?).bind (·.dst)) != some t) = true then some b else none
      | _ => none
  | _ => none
def loadRoot (ops : Array Oper) (i : Nat) (op : Op) : Option Nat := match op with
  | .load _ p => rootOf ops i p
  | _ => none
def isAlloc : Op → Bool
  | .alloc _ => true
  | _ => false
theorem isAlloc_of {o : Op} (h : isAlloc o = true) : ∃ t, o = .alloc t := by
  unfold isAlloc at h
  split at h
  · exact ⟨_, rfl⟩
  · exact absurd h (by simp)
def rootsOf (ops : Array Oper) (j : Nat) : List Nat :=
  (List.range ops.size).filterMap fun i => if i = j then none else if (if i < j then befB (masks ops.toList []) i j else befB (masks ops.toList []) j i) = true then none else match ops[i]? with
    | some oi => loadRoot ops i oi.op
    | none => none
def isCallF : Op → Bool
  | .call ⟨.value (.func _), _, _⟩ => true
  | .call ⟨.value (.tmp _), _, _⟩ => true
  | _ => false
def noisyQ (r : Bool) (ops : Array Oper) (op : Op) : Bool := noisyS ops op || (r && isCallF op)
def offB (v : V) (md : List Key) : Prop := ∀ k ∈ keyAt v, k ∉ md
def Quiet (ops : Array Oper) (i : Nat) (op : Op) (T : Nat → V) (md : List Key) : Prop := noisyQ true ops op = true ∧ ∀ b ∈ rootsOf ops i, offB (T b) md
def rooted (O : List Nat) : Bool := match O with
  | 0 :: _ => true
  | _ => false
def mdOk (draw r : Bool) (ops : Array Oper) (i : Nat) (op : Op) (T : Nat → V) (md : List Key) : Prop := match draw, md with
  | false, _ => True
  | true, [] => True
  | true, k :: md => match r with
    | false => noisyS ops op = true
    | true => Quiet ops i op T (k :: md)
def guardV (ops : Array Oper) (T : Nat → V) (j : Nat) : V := match (ops[j]?).bind (·.dst) with
  | some g => T g
  | none => .unk
def ifB (v : V) (want : Bool) (p q : Prop) : Prop := match v with
  | .d (.bool b) => (b = want → p) ∧ (b = !want → q)
  | .tup [] => q
  | _ => False
def runO (P : Program) (N : Nat) (O : List Nat) (draw : Bool) (nx : Nat) (ops : Array Oper) : List Oper → Nat → (Nat → V) → Store → ((Nat → V) → Store → Prop) → Prop
  | [], _, T, H, K => K T H
  | o :: r, i, T, H, K => match o.guard with
    | none => opS P N O nx (nx + i) H o (evV T) fun E => mdOk draw (rooted O) ops i o.op T E.md ∧ runO P N O draw nx ops r (i + 1) (putT o.dst E.v T) (app E.up H) K
    | some (j, want) => ifB (guardV ops T j) want
      (opS P N O nx (nx + i) H o (evV T) fun E => mdOk draw (rooted O) ops i o.op T E.md ∧ runO P N O draw nx ops r (i + 1) (putT o.dst E.v T) (app E.up H) K)
      (runO P N O draw nx ops r (i + 1) (putT o.dst (.tup []) T) H K)
section
variable {P : Program} {N : Nat} {O : List Nat} {w0 : Base} {F0 E0 fr : Nat → Prop} {T : Nat → V} {H : Store} {a : Act} {w : World} {M : Key → Option Value} {F : Nat → Prop}
theorem At.fr_mono {fr' : Nat → Prop} (h : At P N w0 F0 E0 fr T H a w M F) (hf : ∀ j, fr' j → fr j) : At P N w0 F0 E0 fr' T H a w M F :=
  ⟨h.keep, h.real, h.tmps, fun k hk => h.free k (hf _ hk), h.reach, h.defers, h.size, h.chg, h.lt0, h.base⟩
theorem Inv.fr_mono {fr' : Nat → Prop} (h : Inv P N w0 F0 E0 fr T H a w) (hf : ∀ j, fr' j → fr j) : Inv P N w0 F0 E0 fr' T H a w := by
  obtain ⟨M, F, hat⟩ := h
  exact ⟨M, F, hat.fr_mono hf⟩
theorem DenV.undef {M : Key → Option Value} {F : Nat → Prop} {w : World} {v : Value} : DenV M F w (.tup []) v ↔ v = undef := by
  unfold DenV
  constructor
  · rintro ⟨cs, rfl, h⟩
    unfold DenVs at h
    have : cs = #[] := by simpa using h
    rw [this]; rfl
  · rintro rfl
    exact ⟨#[], rfl, DenVs.nil⟩
theorem At.skip (h : At P N w0 F0 E0 fr T H a w M F) {dst : Option Nat} (hd : ∀ d, dst = some d → d < N) : At P N w0 F0 E0 fr (putT dst (.tup []) T) H (a.put dst undef) w M F :=
  ⟨h.keep, h.real, putT_den h.size hd h.tmps (DenV.undef.2 rfl), h.free, h.reach, by cases dst <;> exact h.defers, by cases dst <;> simp [Act.put, h.size], h.chg, h.lt0, h.base⟩
theorem getD_bool {a : Act} {g : Nat} {b : Bool} (h : a.tmps.getD g undef = .bool b) : a.tmps[g]? = some (.bool b) := by
  rw [Array.getD_eq_getD_getElem?] at h
  cases hq : a.tmps[g]? with
  | none => rw [hq] at h; simp [undef] at h
  | some v => rw [hq] at h; simp at h; rw [h]
theorem guard_yields {ops : Array Oper} {j : Nat} {b : Bool} (hT : ∀ j, DenV M F w (T j) (a.tmps.getD j undef)) (h : guardV ops T j = .d (.bool b)) : yielded ops a.tmps j = some b := by
  unfold guardV at h
  unfold yielded
  cases hg : (ops[j]?).bind (·.dst) with
  | none => rw [hg] at h; simp at h
  | some g =>
    rw [hg] at h
    simp only at h
    have := hT g
    rw [h] at this
    simp only [Option.bind_some, getD_bool this.bool]
theorem guard_skips {ops : Array Oper} {j : Nat} (hT : ∀ j, DenV M F w (T j) (a.tmps.getD j undef)) (h : guardV ops T j = .tup []) : yielded ops a.tmps j = none := by
  unfold guardV at h
  unfold yielded
  cases hg : (ops[j]?).bind (·.dst) with
  | none => rfl
  | some g =>
    rw [hg] at h
    simp only at h
    have := hT g
    rw [h] at this
    have h2 := DenV.undef.1 this
    rw [Array.getD_eq_getD_getElem?] at h2
    simp only [Option.bind_some]
    cases hq : a.tmps[g]? with
    | none => rfl
    | some v => rw [hq] at h2; simp at h2; rw [h2]; rfl
def noWant (ops : Array Oper) (T : Nat → V) (j : Nat) (w : Bool) : Prop := guardV ops T j = .d (.bool (!w)) ∨ guardV ops T j = .tup []
theorem noWant.wanted {ops : Array Oper} {j : Nat} {want : Bool} {o : Oper} (hT : ∀ j, DenV M F w (T j) (a.tmps.getD j undef)) (hg : o.guard = some (j, want)) (h : noWant ops T j want) : ¬ Region.wanted o (yielded ops a.tmps) = true := by
  rcases h with h | h
  · have hy := guard_yields hT h
    simp [Region.wanted, hg, hy]
  · have hy := guard_skips hT h
    simp [Region.wanted, hg, hy]
theorem dstB_lt {o : Oper} (h : dstB N o = true) : ∀ x, o.dst = some x → x < N := by
  intro x hx
  unfold dstB at h
  rw [hx] at h
  simpa using h
theorem runO_sound {ops : Array Oper} (hds : ops.all (dstB N) = true) {nx : Nat} {K : (Nat → V) → Store → Prop} {Q : Exit → Act → World → Prop}
    (hK : ∀ T H a w, K T H → Inv P N w0 F0 E0 (fun j => nx + ops.size ≤ j) T H a w → Q .normal a w) :
    ∀ (l : List Oper) (i : Nat) (T : Nat → V) (H : Store) (a : Act) (w : World), l = ops.toList.drop i → i ≤ ops.size → runO P N O false nx ops l i T H K → Inv P N w0 F0 E0 (fun j => nx + i ≤ j) T H a w →
      wpOps P ops Q (List.range' i (ops.size - i)) a w
  | [], i, T, H, a, w, hl, hi, h, hinv => by
    have : ops.size ≤ i := by
      have := congrArg List.length hl
      simp at this; omega
    have h0 : ops.size - i = 0 := by omega
    rw [h0]
    simp only [List.range', wpOps]
    have e : i = ops.size := by omega
    subst e
    exact hK T H a w h hinv
  | o :: r, i, T, H, a, w, hl, hi, h, hinv => by
    have hlt : i < ops.size := by
      have := congrArg List.length hl
      simp at this; omega
    have ho : ops[i]? = some o := by
      have : ops.toList[i]? = some o := by
        have h1 := congrArg (fun l => l[0]?) hl
        simp at h1
        simpa using h1.symm
      simpa using this
    have hr : r = ops.toList.drop (i + 1) := by
      have h1 := congrArg List.tail hl
      simpa using h1
    rw [show ops.size - i = (ops.size - (i + 1)) + 1 by omega, List.range'_succ]
    simp only [wpOps, ho]
    have ih := runO_sound hds hK r (i + 1)
    have hd := dstB_lt (Array.all_eq_true_iff_forall_mem.1 hds o (Array.mem_of_getElem? ho))
    have go : opS P N O nx (nx + i) H o (evV T) (fun E => mdOk false (rooted O) ops i o.op T E.md ∧ runO P N O false nx ops r (i + 1) (putT o.dst E.v T) (app E.up H) K) →
        o.wp P a w (wpOps P ops Q (List.range' (i + 1) (ops.size - (i + 1)))) Q := by
      intro hop
      obtain ⟨E, ⟨_, hE⟩, hok, _⟩ := opS_sound hop
      obtain ⟨M, F, hat⟩ := hinv
      refine Oper.wp_mono ?_ (hok.run (Nat.le_refl _) hat (fun x _ => evV_den hat.tmps x) (fun _ _ => rfl) hd Q)
      intro a' w' hi'
      exact ih _ _ a' w' hr (by omega) hE (hi'.fr_mono fun j hj => ⟨by omega, by omega⟩)
    unfold runO at h
    split at h
    · rename_i hg
      have hw : Region.wanted o (yielded ops a.tmps) = true := by simp [Region.wanted, hg]
      rw [if_pos hw]
      exact .inl (go h)
    · rename_i j want hg
      unfold ifB at h
      split at h
      · rename_i b hb
        obtain ⟨M, F, hat⟩ := hinv
        have hy := guard_yields hat.tmps hb
        by_cases hbw : b = want
        · have hw : Region.wanted o (yielded ops a.tmps) = true := by simp [Region.wanted, hg, hy, hbw]
          rw [if_pos hw]
          exact .inl (go (h.1 hbw))
        · have hb' : b = !want := by cases b <;> cases want <;> simp_all
          rw [if_neg (noWant.wanted hat.tmps hg (.inl (by rw [hb, hb'])))]
          exact ih _ _ _ w hr (by omega) (h.2 hb') ⟨M, F, (hat.skip hd).fr_mono fun j hj => by omega⟩
      · rename_i hb
        obtain ⟨M, F, hat⟩ := hinv
        rw [if_neg (noWant.wanted hat.tmps hg (.inr hb))]
        exact ih _ _ _ w hr (by omega) h ⟨M, F, (hat.skip hd).fr_mono fun j hj => by omega⟩
      · exact h.elim
theorem W.region {id : Nat} {ops : Array Oper} {Q : Exit → St → Prop} {S : St} (hds : ops.all (dstB N) = true) (h : runO P N O false S.nx ops ops.toList 0 S.T S.H fun T H => Q .normal ⟨T, H, S.nx + ops.size⟩) : W P N (.region id ops false) Q S := fun w0 F0 E0 a w k => by
  refine wp_region ?_
  rw [List.range_eq_range']
  have := runO_sound (P := P) (N := N) (nx := S.nx) (ops := ops) (K := fun T H => Q .normal ⟨T, H, S.nx + ops.size⟩) (Q := fun e a w => ∃ S', Q e S' ∧ S'.Fits P N w0 F0 E0 a w) (w0 := w0) (F0 := F0) (E0 := E0) hds (fun T H a w hk hi => ⟨⟨T, H, S.nx + ops.size⟩, hk, hi⟩) ops.toList 0 S.T S.H a w (by simp) (Nat.zero_le _) h k
  simpa using this
end
end Go.Proofs.YtjknjekemolndaaGreat.Abs
