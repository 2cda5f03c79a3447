/- Texts of the abs road (plain values, what code does to them, and the contracts of the functions that the law reaches). No condition. -/
import Derived.Test.YtjknjekemolndaaGreatG0FnExactNeatRegion
import Derived.Laws.StructEq
namespace Go.Proofs.YtjknjekemolndaaGreat.Abs
open Go Go.RowKit
set_option linter.unusedVariables false
set_option linter.unusedSimpArgs false
section
variable {P : Program}
theorem intB_digest {k : IntKind} {t : TypeId} (h : intB P k t = true) : ∃ s b zc, digest P t = some ⟨.int k, s, b, zc⟩ := by
  unfold intB at h
  split at h
  · rename_i k' s b zc hd
    obtain rfl := of_decide_eq_true h
    exact ⟨s, b, zc, hd⟩
  · exact absurd h (by simp)
theorem digest_int' {t : TypeId} {k : IntKind} {s b : Nat} {zc : List V} (h : digest P t = some ⟨.int k, s, b, zc⟩) : P.underlying t = some (.int k) := by
  obtain ⟨d, i, z, hu, hi, hz, he, _⟩ := digest_spec h
  injection he with h1 h2 h3 h4
  cases d <;> simp [tkOf] at h1
  subst h1; exact hu
theorem digest_bool' {t : TypeId} {s b : Nat} {zc : List V} (h : digest P t = some ⟨.bool, s, b, zc⟩) : P.underlying t = some .bool := by
  obtain ⟨d, i, z, hu, hi, hz, he, _⟩ := digest_spec h
  injection he with h1 h2 h3 h4
  cases d <;> simp [tkOf] at h1
  exact hu
theorem digest_int2 {t : TypeId} {k : IntKind} {s b : Nat} {zc : List V} (h : digest P t = some ⟨.int k, s, b, zc⟩) : P.underlying t = some (.int k) := by
  obtain ⟨d, i, z, hu, hi, hz, he, _⟩ := digest_spec h
  injection he with h1 h2 h3 h4
  cases d <;> simp [tkOf] at h1
  subst h1; exact hu
theorem eqScal_run {t : TypeId} {v : V} (h : eqScal P t v = true) {M : Key → Option Value} {F : Nat → Prop} {w w1 : World} {x y : Value} (hx : DenV M F w v x) (hy : DenV M F w v y) (d : Nat) : (Op.equalIn (d + 1) t x y).run P w1 = .ok true w1 := by
  unfold eqScal at h
  split at h
  · rename_i k n
    split at h
    · rename_i k' s b zc hd
      rw [hx.int, hy.int, run_equalIn_int w1 d t k k' n n (digest_int2 hd)]
      simp
    · cases h
  · rename_i b
    split at h
    · rename_i s b' zc hd
      rw [hx.bool, hy.bool, run_equalIn_bool w1 d t b b (digest_bool' hd)]
      simp
    · cases h
  · cases h
theorem eqAll_run {eq : TypeId → V → Bool} {d : Nat} {M : Key → Option Value} {F : Nat → Prop} {w : World} (heq : ∀ t v x y w1, eq t v = true → DenV M F w v x → DenV M F w v y → (Op.equalIn d t x y).run P w1 = .ok true w1)
    {c : List V} {xs ys : Array Value} (hx : DenVs M F w c xs.toList) (hy : DenVs M F w c ys.toList) : ∀ (fs : List Field), eqAll P eq c fs = true → ∀ w1, (Op.eqFields d xs ys fs).run P w1 = .ok true w1
  | [], h, w1 => by simp [Op.eqFields]
  | f :: fs, h, w1 => by
    unfold eqAll at h
    simp only [Bool.and_eq_true] at h
    obtain ⟨h1, h2, h3⟩ := h
    have nf : f.name ≠ "_" := by simpa using h1
    have ih := eqAll_run heq hx hy fs h3
    split at h2
    · rename_i I hI
      have key : ∃ v, eq f.type v = true ∧ ∀ (zs : Array Value) (w2 : World), DenVs M F w c zs.toList → ∃ u, (part f.type zs f.offset).run P w2 = .ok u w2 ∧ DenV M F w v u := by
        split at h2
        · rename_i hs
          simp only [Bool.and_eq_true] at h2
          obtain ⟨v, hv, hr⟩ := partV_den (K := fun v => v = .agg (cut c f.offset I.size)) hI (c := c) (o := f.offset) (by unfold partV; rw [if_pos hs]; exact ⟨Nat.le_of_ble_eq_true h2.1, rfl⟩)
          subst hv
          exact ⟨_, h2.2, fun zs w2 hz => hr M F w w2 zs hz⟩
        · rename_i hs
          split at h2
          · rename_i v hv
            obtain ⟨v', hv', hr⟩ := partV_den (K := fun v' => v' = v) hI (c := c) (o := f.offset) (by unfold partV; rw [if_neg hs, hv])
            subst hv'
            exact ⟨_, h2, fun zs w2 hz => hr M F w w2 zs hz⟩
          · cases h2
      obtain ⟨v, hv, hr⟩ := key
      obtain ⟨u1, p1, d1⟩ := hr xs w1 hx
      obtain ⟨u2, p2, d2⟩ := hr ys w1 hy
      simp only [Op.eqFields, if_pos nf, Sem.run_bind, p1, p2, Result.andThen_ok, heq _ _ _ _ w1 hv d1 d2]
      simpa using ih w1
    · cases h2
theorem eqV_run : ∀ (n : Nat) {t : TypeId} {v : V}, eqV P n t v = true → ∀ {M : Key → Option Value} {F : Nat → Prop} {w w1 : World} {x y : Value}, DenV M F w v x → DenV M F w v y → ∀ d, n < d → (Op.equalIn d t x y).run P w1 = .ok true w1
  | 0, t, v, h, M, F, w, w1, x, y, hx, hy, d, hd => by
    obtain ⟨d, rfl⟩ : ∃ e, d = e + 1 := ⟨d - 1, by omega⟩
    have h : eqScal P t v = true := by cases v <;> exact h
    exact eqScal_run h hx hy d
  | n + 1, t, v, h, M, F, w, w1, x, y, hx, hy, d, hd => by
    obtain ⟨d, rfl⟩ : ∃ e, d = e + 1 := ⟨d - 1, by omega⟩
    cases v with
    | agg c =>
      unfold eqV at h
      split at h
      · rename_i fs hu
        simp only [Bool.and_eq_true] at h
        have hf : P.fieldsOf t = fs := by unfold Program.fieldsOf; rw [hu]
        have hu' : P.underlying t = some (.struct (P.fieldsOf t)) := by rw [hf]; exact hu
        unfold DenV at hx hy
        obtain ⟨xs, rfl, hx⟩ := hx
        obtain ⟨ys, rfl, hy⟩ := hy
        rw [run_equalIn_struct w1 d t xs ys hu' (by simpa using h.1), hf]
        exact eqAll_run (fun t' v' x' y' w2 h' hx' hy' => eqV_run n h' hx' hy' d (by omega)) hx hy fs.toList h.2 w1
      · cases h
    | _ => exact eqScal_run h hx hy d
theorem eq2_run {t : TypeId} {k : IntKind} (hB : eq2B P t k = true) {xs ys : Array Value} {M : Key → Option Value} {F : Nat → Prop} {w : World} {a b a' b' : Int} (hx : DenVs M F w [.d (.int k a), .d (.int k b)] xs.toList) (hy : DenVs M F w [.d (.int k a'), .d (.int k b')] ys.toList) (xo yo : Operand) :
    (do eqGuard .eql t xo yo (.agg xs) (.agg ys); binOp .eql t (.agg xs) (.agg ys) : Sem Value).run P w = .ok (.bool (a == a' && b == b')) w := by
  unfold eq2B at hB
  simp only [Bool.and_eq_true] at hB
  obtain ⟨h1, h2, h3⟩ := hB
  split at h3
  · rename_i fs hu
    split at h3
    · rename_i f g hfs
      simp only [Bool.and_eq_true] at h3
      obtain ⟨⟨n1, n2⟩, ⟨o1, o2⟩, i1, i2⟩ := h3
      obtain ⟨s1, b1, z1, g1⟩ := intB_digest i1
      obtain ⟨s2, b2, z2, g2⟩ := intB_digest i2
      have o1 := eq_of_beq o1
      have o2 := eq_of_beq o2
      have hf : P.fieldsOf t = fs := by unfold Program.fieldsOf; rw [hu]
      have hu' : P.underlying t = some (.struct (P.fieldsOf t)) := by rw [hf]; exact hu
      have part0 : ∀ (zs : Array Value) (p q : Int) (w1 : World), DenVs M F w [.d (.int k p), .d (.int k q)] zs.toList → (part f.type zs f.offset).run P w1 = .ok (.int k p) w1 := fun zs p q w1 hz => by
        obtain ⟨v, hv, hr⟩ := partV_den (K := fun v => v = .d (.int k p)) g1 (c := [.d (.int k p), .d (.int k q)]) (o := f.offset) (by rw [o1]; simp [partV, isStruct])
        obtain ⟨u, hu, hd⟩ := hr M F w w1 zs hz
        subst hv
        rw [hd.int] at hu
        exact hu
      have part1 : ∀ (zs : Array Value) (p q : Int) (w1 : World), DenVs M F w [.d (.int k p), .d (.int k q)] zs.toList → (part g.type zs g.offset).run P w1 = .ok (.int k q) w1 := fun zs p q w1 hz => by
        obtain ⟨v, hv, hr⟩ := partV_den (K := fun v => v = .d (.int k q)) g2 (c := [.d (.int k p), .d (.int k q)]) (o := g.offset) (by rw [o2]; simp [partV, isStruct])
        obtain ⟨u, hu, hd⟩ := hr M F w w1 zs hz
        subst hv
        rw [hd.int] at hu
        exact hu
      rw [Sem.run_bind, run_eqGuard_agg w .eql t xo yo xs ys (by simpa using h2), Result.andThen_ok, run_eql_struct, run_equalIn_struct w 9999 t xs ys hu' (by simpa using h1), hf, hfs]
      have nf : f.name ≠ "_" := by simpa using n1
      have ng : g.name ≠ "_" := by simpa using n2
      simp only [Op.eqFields, if_pos nf, if_pos ng, Sem.run_bind, part0 _ _ _ _ hx, part0 _ _ _ _ hy, part1 _ _ _ _ hx, part1 _ _ _ _ hy, Result.andThen_ok]
      rw [run_equalIn_int w 9998 f.type k k a a' (digest_int' g1), Result.andThen_ok]
      cases h5 : (a == a')
      · simp
      · simp only [Bool.not_true, Bool.false_eq_true, if_false, Sem.run_bind, part1 _ _ _ _ hx, part1 _ _ _ _ hy, Result.andThen_ok]
        rw [run_equalIn_int w 9998 g.type k k b b' (digest_int' g2), Result.andThen_ok]
        cases h6 : (b == b') <;> simp
    · exact absurd h3 (by simp)
  · exact absurd h3 (by simp)
theorem binS_den {op : BinOp} {t : TypeId} {x y : V} {K : V → Prop} (h : binS P op t x y K) : ∃ v, K v ∧ ∀ (M : Key → Option Value) (F : Nat → Prop) (w : World) (xo yo : Operand) (a b : Value), DenV M F w x a → DenV M F w y b →
    ∃ u, (do eqGuard op t xo yo a b; binOp op t a b : Sem Value).run P w = .ok u w ∧ DenV M F w v u := by
  unfold binS at h
  split at h
  · rename_i k a k' b
    by_cases hbit : bitB op = true
    · rw [if_pos hbit] at h
      unfold bitS at h
      split at h
      · obtain ⟨rfl, h⟩ := h
        refine ⟨_, h, fun M F w xo yo u v hu hv => ?_⟩
        obtain rfl := hu.int
        obtain rfl := hv.int
        refine ⟨_, ?_, by unfold DenV DenD; rfl⟩
        simp [eqGuard, binOp, Op.intBits, andI]
      · obtain ⟨rfl, h⟩ := h
        refine ⟨_, h, fun M F w xo yo u v hu hv => ?_⟩
        obtain rfl := hu.int
        obtain rfl := hv.int
        refine ⟨_, ?_, by unfold DenV DenD; rfl⟩
        simp [eqGuard, binOp, Op.intBits, xorI]
      · refine ⟨_, h.2, fun M F w xo yo u v hu hv => ?_⟩
        obtain rfl := hu.int
        obtain rfl := hv.int
        refine ⟨_, ?_, by unfold DenV DenD; rfl⟩
        have hb : ¬ b < 0 := by omega
        simp [eqGuard, binOp, Op.shift, shrI, hb]
      · exact h.elim
    rw [if_neg hbit] at h
    obtain ⟨rfl, h⟩ := h
    split at h
    all_goals first
      | exact h.elim
      | (refine ⟨_, h.2, fun M F w xo yo u v hu hv => ?_⟩
         obtain rfl := hu.int
         obtain rfl := hv.int
         refine ⟨_, ?_, by unfold DenV DenD; rfl⟩
         simp [eqGuard, binOp, Op.intDiv, h.1])
      | (refine ⟨_, h, fun M F w xo yo u v hu hv => ?_⟩
         obtain rfl := hu.int
         obtain rfl := hv.int
         refine ⟨_, ?_, by unfold DenV DenD; rfl⟩
         simp [eqGuard, binOp, Op.intArith, Op.intCmp])
  · rename_i a b
    split at h
    · rename_i s by_ zc hg
      obtain ⟨d, i, z, hu0, hi, hz, he, _⟩ := digest_spec hg
      have hb : P.underlying t = some .bool := by
        injection he with h1 h2 h3 h4
        cases d <;> simp [tkOf] at h1
        exact hu0
      have hq : ∀ (w : World) (a b : Bool), (Op.equal t (.bool a) (.bool b)).run P w = .ok (a == b) w := by
        intro w a b
        have : ∀ d, (Op.equalIn (d + 1) t (.bool a) (.bool b)).run P w = .ok (a == b) w := fun d => by simp [Op.equalIn, run_underlying hb]
        exact this 9999
      split at h
      · refine ⟨_, h, fun M F w xo yo u v hu hv => ?_⟩
        obtain rfl := hu.bool
        obtain rfl := hv.bool
        refine ⟨_, ?_, by unfold DenV DenD; rfl⟩
        simp [eqGuard, binOp, hq]
      · refine ⟨_, h, fun M F w xo yo u v hu hv => ?_⟩
        obtain rfl := hu.bool
        obtain rfl := hv.bool
        refine ⟨_, ?_, by unfold DenV DenD; rfl⟩
        simp [eqGuard, binOp, hq]
        cases a <;> cases b <;> rfl
      · exact h.elim
    · exact h.elim
  · rename_i c c'
    split at h
    · unfold eq2S at h
      split at h
      · rename_i k a k1 b k2 a' k3 b'
        obtain ⟨⟨rfl, rfl, rfl⟩, hB, h⟩ := h
        refine ⟨_, h, fun M F w xo yo u v hu hv => ?_⟩
        unfold DenV at hu hv
        obtain ⟨xs, rfl, hx⟩ := hu
        obtain ⟨ys, rfl, hy⟩ := hv
        exact ⟨_, eq2_run hB hx hy xo yo, by unfold DenV DenD; rfl⟩
      · obtain ⟨rfl, ⟨hg, hB⟩, h⟩ := h
        refine ⟨_, h, fun M F w xo yo u v hu hv => ?_⟩
        have hr := fun w1 => eqV_run 4 (w1 := w1) hB hu hv 10000 (by omega)
        unfold DenV at hu hv
        obtain ⟨xs, rfl, hx⟩ := hu
        obtain ⟨ys, rfl, hy⟩ := hv
        refine ⟨_, ?_, by unfold DenV DenD; rfl⟩
        rw [Sem.run_bind, run_eqGuard_agg w .eql t xo yo xs ys hg, Result.andThen_ok, run_eql_struct, hr w]
        rfl
    · exact h.elim
  · exact h.elim
theorem unS_den {op : UnOp} {x : V} {K : V → Prop} (h : unS op x K) : ∃ v, K v ∧ ∀ (M : Key → Option Value) (F : Nat → Prop) (w : World) (a : Value), DenV M F w x a → ∃ u, (Op.unary op a).run P w = .ok u w ∧ DenV M F w v u := by
  unfold unS at h
  split at h
  · refine ⟨_, h, fun M F w a ha => ?_⟩
    obtain rfl := ha.bool
    exact ⟨_, rfl, by unfold DenV DenD; rfl⟩
  · refine ⟨_, h, fun M F w a ha => ?_⟩
    obtain rfl := ha.int
    exact ⟨_, rfl, by unfold DenV DenD; rfl⟩
  · exact h.elim
theorem digest_int {t : TypeId} {k : IntKind} {s b : Nat} {zc : List V} (h : digest P t = some ⟨.int k, s, b, zc⟩) : P.underlying t = some (.int k) := by
  obtain ⟨d, i, z, hu, hi, hz, he, _⟩ := digest_spec h
  injection he with h1 h2 h3 h4
  cases d <;> simp [tkOf] at h1
  subst h1; exact hu
def ValOk (P : Program) (o : Oper) (ρ : Operand → V) (v : V) : Prop :=
  ∀ (M : Key → Option Value) (F : Nat → Prop) (w : World) (ρc : Operand → Value), (∀ x ∈ o.op.operands, DenV M F w (ρ x) (ρc x)) → ∃ u, (execOp ρc o).run P w = .ok (.value u) w ∧ DenV M F w v u
theorem valS_sound {o : Oper} {ρ : Operand → V} {K : V → Prop} (h : valS P o.op ρ K) : ∃ v, K v ∧ ValOk P o ρ v := by
  obtain ⟨dst, op, ty, pos, after, guard⟩ := o
  simp only at h
  unfold valS at h
  split at h
  · rename_i x
    exact ⟨_, h, fun M F w ρc hρ => ⟨_, rfl, hρ x (by simp [Op.operands])⟩⟩
  · rename_i x
    exact ⟨_, h, fun M F w ρc hρ => ⟨_, rfl, hρ x (by simp [Op.operands])⟩⟩
  · rename_i c a b
    split at h
    · rename_i t hc
      refine ⟨_, h, fun M F w ρc hρ => ?_⟩
      have h1 := hρ c (by simp [Op.operands])
      have h2 := hρ a (by simp [Op.operands])
      have h3 := hρ b (by simp [Op.operands])
      rw [hc] at h1
      have h4 := h1.bool
      cases t with
      | true => exact ⟨ρc a, by simp [execOp, h4, asBool], by simpa using h2⟩
      | false => exact ⟨ρc b, by simp [execOp, h4, asBool], by simpa using h3⟩
    · exact h.elim
  · rename_i t ps
    split at h
    · rename_i fs s by_ zc hg
      obtain ⟨hall, h⟩ := h
      split at h
      · rename_i c hf
        refine ⟨_, h, fun M F w ρc hρ => ?_⟩
        obtain ⟨fa, hu, hfs⟩ := digest_struct hg
        obtain ⟨i, z, hi, hz, hzc⟩ := digest_zero hg
        simp only at hzc
        have hplaces : ∀ (l : List Field), (∀ f ∈ l, (digest P f.type).isSome = true) → ∃ pl : List (Nat × Nat), l.mapM (fun f => (P.info? f.type).map fun i => (f.offset, i.size)) = some pl ∧
            ∀ (i o : Nat) (t : TypeId) (I : TI), (l.map fun f => (f.offset, f.type))[i]? = some (o, t) → digest P t = some I → pl[i]? = some (o, I.size) := by
          intro l
          induction l with
          | nil => intro _; exact ⟨[], rfl, fun i o t I h => by simp at h⟩
          | cons f l ih =>
            intro hl
            obtain ⟨pl, h1, h2⟩ := ih (fun g hg' => hl g (List.mem_cons_of_mem _ hg'))
            obtain ⟨J, hJ⟩ := Option.isSome_iff_exists.1 (hl f List.mem_cons_self)
            obtain ⟨j, hj, hjs, _⟩ := digest_size hJ
            refine ⟨(f.offset, j.size) :: pl, by simp [List.mapM_cons, hj, h1], fun i o t I hi' hI => ?_⟩
            cases i with
            | zero =>
              simp at hi'
              obtain ⟨rfl, rfl⟩ := hi'
              rw [hJ] at hI
              obtain rfl := Option.some.inj hI
              simp [hjs]
            | succ i => simpa using h2 i o t I (by simpa using hi') hI
        obtain ⟨pl, hpl, hpl2⟩ := hplaces fa.toList (by
          intro f hf'
          have := List.all_eq_true.1 hall (f.offset, f.type) (by rw [hfs]; exact List.mem_map.2 ⟨f, hf', rfl⟩)
          exact this)
        have hd0 : DenVs M F w zc z.cells.toList := by rw [hzc]; exact absVs_den _
        obtain ⟨cells', hfill, hden⟩ := fillV_den (P := P) (place := (pl.toArray[·]?)) (fun i o t I h1 h2 => by
          rw [hfs] at h1
          simpa using hpl2 i o t I h1 h2) hf hd0 (fun p hp => hρ p.2 (by simp [Op.operands]; exact ⟨p.1, by simpa using hp⟩))
        refine ⟨.agg cells', ?_, by unfold DenV; exact ⟨cells', rfl, hden⟩⟩
        have hb : P.built t (ps.toList.map fun p => (p.1, ρc p.2)) = some cells' := by
          unfold Program.built
          simp only [hi, hu, hz, hpl]
          exact hfill
        have := run_build (P := P) w t (ps.map fun p => (p.1, ρc p.2)) cells' (by rw [Array.toList_map]; exact hb)
        simp only [execOp, Sem.run_bind]
        rw [this]
        rfl
      · exact h.elim
    · exact h.elim
  · rename_i bop t x y yt
    obtain ⟨v, hk, hd⟩ := binS_den h
    refine ⟨v, hk, fun M F w ρc hρ => ?_⟩
    obtain ⟨u, hu, hv⟩ := hd M F w x y _ _ (hρ x (by simp [Op.operands])) (hρ y (by simp [Op.operands]))
    exact ⟨u, by simp only [execOp, Sem.run_bind] at hu ⊢; rw [hu]; rfl, hv⟩
  · rename_i uop t x
    obtain ⟨v, hk, hd⟩ := unS_den (P := P) h
    refine ⟨v, hk, fun M F w ρc hρ => ?_⟩
    obtain ⟨u, hu, hv⟩ := hd M F w _ (hρ x (by simp [Op.operands]))
    exact ⟨u, by simp only [execOp, Sem.run_bind, hu]; rfl, hv⟩
  · rename_i st t x
    split at h
    · rename_i k0 s0 b0 z0 k s by_ zc k' n hg0 hg hx
      refine ⟨_, h, fun M F w ρc hρ => ?_⟩
      have h1 := hρ x (by simp [Op.operands])
      rw [hx] at h1
      have h2 := h1.int
      refine ⟨.int k (k.wrap n), ?_, by unfold DenV DenD; rfl⟩
      simp only [execOp, h2, convert, Sem.run_bind, run_underlying (digest_int hg0), run_underlying (digest_int hg), Result.andThen_ok, Conv.intToInt, Sem.run_pure]
    · exact h.elim
  · rename_i t x f
    split at h
    · rename_i fs s by_ zc hg
      split at h
      · rename_i o ft ho
        split at h
        · rename_i I hI
          obtain ⟨hsz, h⟩ := h
          obtain ⟨fa, hu, hfs⟩ := digest_struct hg
          obtain ⟨fd, hfd, hoff⟩ : ∃ fd, fa[f]? = some fd ∧ (fd.offset, fd.type) = (o, ft) := by
            rw [hfs, List.getElem?_map, Array.getElem?_toList] at ho
            cases hq : fa[f]? with
            | none => rw [hq] at ho; simp at ho
            | some fd => rw [hq] at ho; simp at ho; exact ⟨fd, rfl, by simp [ho]⟩
          injection hoff with ho1 ho2
          subst ho1; subst ho2
          have hrun : ∀ (w : World) (a : Addr), (Instr.fieldAt t (.pointer (some a)) f).run P w = .ok (.pointer (some (a.add fd.offset))) w := by
            intro w a
            simp only [Instr.fieldAt, Sem.run_bind, run_underlying hu, Result.andThen_ok, hfd, Instr.sureAddr, Sem.run_pure, fieldPlace, run_sizeOf_digest hI, if_neg hsz]
          split at h
          · rename_i k p hx
            refine ⟨_, h, fun M F w ρc hρ => ?_⟩
            have h1 := hρ x (by simp [Op.operands])
            rw [hx] at h1
            unfold DenV at h1
            obtain ⟨b, hb, hv⟩ := h1
            refine ⟨_, by simp only [execOp, hv, Sem.run_bind, hrun]; rfl, ?_⟩
            unfold DenV
            exact ⟨b, hb, by rw [Addr.add_mid]⟩
          · rename_i s p hx
            refine ⟨_, h, fun M F w ρc hρ => ?_⟩
            have h1 := hρ x (by simp [Op.operands])
            rw [hx] at h1
            unfold DenV at h1
            obtain ⟨b, o, n, cap, hv, hs⟩ := h1
            refine ⟨_, by simp only [execOp, hv, Sem.run_bind, hrun]; rfl, ?_⟩
            unfold DenV
            exact ⟨b, o, n, cap, by rw [Addr.add_mid, Nat.add_assoc], hs⟩
          · exact h.elim
        · exact h.elim
      · exact h.elim
    · exact h.elim
  · rename_i t x f
    split at h
    · rename_i fs s by_ zc hg
      split at h
      · rename_i o ft ho
        split at h
        · rename_i I c hI hx
          obtain ⟨fa, hu, hfs⟩ := digest_struct hg
          obtain ⟨fd, hfd, hoff⟩ : ∃ fd, fa[f]? = some fd ∧ (fd.offset, fd.type) = (o, ft) := by
            rw [hfs, List.getElem?_map, Array.getElem?_toList] at ho
            cases hq : fa[f]? with
            | none => rw [hq] at ho; simp at ho
            | some fd => rw [hq] at ho; simp at ho; exact ⟨fd, rfl, by simp [ho]⟩
          injection hoff with ho1 ho2
          subst ho1; subst ho2
          obtain ⟨v, hk, hd⟩ := partV_den hI h
          refine ⟨v, hk, fun M F w ρc hρ => ?_⟩
          have h1 := hρ x (by simp [Op.operands])
          rw [hx] at h1
          unfold DenV at h1
          obtain ⟨cs, hv, hcs⟩ := h1
          obtain ⟨u, hu1, hu2⟩ := hd M F w w cs hcs
          exact ⟨u, by simp only [execOp, hv, Instr.field, Sem.run_bind, run_underlying hu, Result.andThen_ok, hfd, asAgg, Sem.run_pure, hu1], hu2⟩
        · exact h.elim
      · exact h.elim
    · exact h.elim
  · rename_i t x i
    split at h
    · rename_i e s by_ zc hg
      split at h
      · rename_i I k n m hI hi hl
        obtain ⟨hb, h⟩ := h
        refine ⟨_, h, fun M F w ρc hρ => ?_⟩
        have h1 := hρ x (by simp [Op.operands])
        have h2 := hρ i (by simp [Op.operands])
        rw [hi] at h2
        have h3 := h2.int
        obtain ⟨A, cap, hv, hz⟩ := lenV_den hl h1
        rcases hz with hz | ⟨b, o, rfl⟩
        · omega
        · refine ⟨.pointer (some ⟨b, o + n.toNat * I.size, none⟩), ?_, ?_⟩
          · simp only [execOp, hv, h3, Instr.indexAt, Sem.run_bind, run_underlying (digest_slice hg), Result.andThen_ok, asIntOf, Sem.run_pure, if_pos hb, run_sizeOf_digest hI, Addr.add_mid]
          · unfold DenV
            exact ⟨b, o, m, cap, rfl, by rw [← hv]; exact h1⟩
      · exact h.elim
    · exact h.elim
  · rename_i t x lo hi
    split at h
    · rename_i e s by_ zc hg
      split at h
      · rename_i I hI
        obtain ⟨v, hk, hd⟩ := sliceS_den (digest_slice hg) (fun w => run_sizeOf_digest hI w) h
        refine ⟨v, hk, fun M F w ρc hρ => ?_⟩
        obtain ⟨r, h1, h2⟩ := hd M F w (ρc x) (lo.map ρc) (hi.map ρc) (hρ x (by simp [Op.operands]))
          (fun y hy => by
            cases lo with
            | none => simp at hy
            | some l => simp at hy; subst hy; exact ⟨_, rfl, hρ l (by simp [Op.operands])⟩) (fun hy => by cases lo <;> simp_all)
          (fun y hy => by
            cases hi with
            | none => simp at hy
            | some l => simp at hy; subst hy; exact ⟨_, rfl, hρ l (by simp [Op.operands])⟩) (fun hy => by cases hi <;> simp_all)
        exact ⟨r, by simp only [execOp, Sem.run_bind, Option.map_none, h1]; rfl, h2⟩
      · exact h.elim
    · exact h.elim
  · rename_i x i
    split at h
    · rename_i c hx
      split at h
      · rename_i v hc
        refine ⟨v, h, fun M F w ρc hρ => ?_⟩
        have h1 := hρ x (by simp [Op.operands])
        rw [hx] at h1
        unfold DenV at h1
        obtain ⟨cs, hv, hcs⟩ := h1
        obtain ⟨u, hu1, hu2⟩ := hcs.get hc
        have hu' : cs[i]? = some u := by simpa using hu1
        exact ⟨u, by simp only [execOp, hv, Instr.extract, hu']; rfl, hu2⟩
      · exact h.elim
    · exact h.elim
  · rename_i x
    split at h
    · rename_i k o hx
      refine ⟨_, h, fun M F w ρc hρ => ?_⟩
      have h1 := hρ x (by simp [Op.operands])
      rw [hx] at h1
      have h2 := h1
      unfold DenV at h1
      obtain ⟨b, hb, hv⟩ := h1
      exact ⟨_, by simp only [execOp, hv]; rfl, by rw [← hv]; exact h2⟩
    · exact h.elim
  · rename_i args ts
    split at h
    · rename_i t x ht hx
      split at h
      · rename_i e s by_ zc n hg hl
        refine ⟨_, h, fun M F w ρc hρ => ?_⟩
        have h1 := hρ x (by simp [Op.operands, Call.operands]; exact Array.mem_of_getElem? hx)
        obtain ⟨A, cap, hv, _⟩ := lenV_den hl h1
        refine ⟨.int .i64 n, ?_, by unfold DenV DenD; rfl⟩
        have hx' : (args.map ρc)[0]? = some (.slice A n cap) := by simp [hx, hv]
        simp only [execOp, resolve, Sem.run_bind, Sem.run_pure, Result.andThen_ok, invoke, builtin, Builtin.len_, ht, hx', run_underlying (digest_slice hg), goInt]
      · exact h.elim
    · exact h.elim
  · rename_i args ts
    split at h
    · rename_i x y hl
      split at h
      · rename_i k a k' b hx hy
        refine ⟨_, h, fun M F w ρc hρ => ?_⟩
        have h1 := hρ x (by simp [Op.operands, Call.operands]; rw [← Array.mem_toList_iff, hl]; simp)
        have h2 := hρ y (by simp [Op.operands, Call.operands]; rw [← Array.mem_toList_iff, hl]; simp)
        rw [hx] at h1; rw [hy] at h2
        have h3 := h1.int
        have h4 := h2.int
        refine ⟨_, ?_, by unfold DenV DenD; rfl⟩
        simp only [execOp, resolve, Sem.run_bind, Sem.run_pure, Result.andThen_ok, invoke, builtin, Builtin.max_, Array.toList_map, hl, List.map_cons, List.map_nil, h3, h4, List.foldlM_cons, List.foldlM_nil, Builtin.max2]
      · exact h.elim
    · exact h.elim
  · rename_i args ts
    split at h
    · rename_i x y hl
      split at h
      · rename_i k a k' b hx hy
        refine ⟨_, h, fun M F w ρc hρ => ?_⟩
        have h1 := hρ x (by simp [Op.operands, Call.operands]; rw [← Array.mem_toList_iff, hl]; simp)
        have h2 := hρ y (by simp [Op.operands, Call.operands]; rw [← Array.mem_toList_iff, hl]; simp)
        rw [hx] at h1; rw [hy] at h2
        have h3 := h1.int
        have h4 := h2.int
        refine ⟨_, ?_, by unfold DenV DenD; rfl⟩
        simp only [execOp, resolve, Sem.run_bind, Sem.run_pure, Result.andThen_ok, invoke, builtin, Builtin.min_, Array.toList_map, hl, List.map_cons, List.map_nil, h3, h4, List.foldlM_cons, List.foldlM_nil, Builtin.min2]
      · exact h.elim
    · exact h.elim
  · exact h.elim
end
end Go.Proofs.YtjknjekemolndaaGreat.Abs
