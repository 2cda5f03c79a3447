/- Texts of the abs road (plain values, what code does to them, and the contracts of the functions that the law reaches). No condition. -/
import Derived.Test.YtjknjekemolndaaGreatG5FnExactNeatRegion
import Derived.Test.YtjknjekemolndaaGreatProg
namespace Go.Proofs.YtjknjekemolndaaGreat.ZL
open Go Go.Proofs.YtjknjekemolndaaGreat.Abs Go.RowKit Go.Proofs
theorem mixed : Tryz.prog.follows .mixedOrders = true := by kernel_rfl
theorem dg2 : digest Tryz.prog 2 = some ⟨.int .i64, 1, 8, [.d (.int .i64 0)]⟩ := by kernel_rfl
theorem dg3 : digest Tryz.prog 3 = some ⟨.int .i64, 1, 8, [.d (.int .i64 0)]⟩ := by kernel_rfl
theorem dg4 : digest Tryz.prog 4 = some ⟨.bool, 1, 1, [.d (.bool false)]⟩ := by kernel_rfl
theorem dg5 : digest Tryz.prog 5 = some ⟨.int .u8, 1, 1, [.d (.int .u8 0)]⟩ := by kernel_rfl
theorem dg9 : digest Tryz.prog 9 = some ⟨.str, 1, 16, [.d (.str ByteArray.empty)]⟩ := by kernel_rfl
theorem dg22 : digest Tryz.prog 22 = some ⟨.slice 5, 1, 24, [.nil]⟩ := by kernel_rfl
theorem dg24 : digest Tryz.prog 24 = some ⟨.slice 66, 1, 24, [.nil]⟩ := by kernel_rfl
theorem dg26 : digest Tryz.prog 26 = some ⟨.struct [(0, 3), (1, 24)], 2, 32, [.d (.int .i64 0), .nil]⟩ := by kernel_rfl
theorem dg31 : digest Tryz.prog 31 = some ⟨.slice 40, 1, 24, [.nil]⟩ := by kernel_rfl
theorem dg33 : digest Tryz.prog 33 = some ⟨.slice 26, 1, 24, [.nil]⟩ := by kernel_rfl
theorem dg35 : digest Tryz.prog 35 = some ⟨.struct [(0, 3), (1, 33)], 2, 32, [.d (.int .i64 0), .nil]⟩ := by kernel_rfl
theorem dg40 : digest Tryz.prog 40 = some ⟨.struct [(0, 3), (1, 3)], 2, 16, [.d (.int .i64 0), .d (.int .i64 0)]⟩ := by kernel_rfl
theorem dg47 : digest Tryz.prog 47 = some ⟨.slice 131, 1, 24, [.nil]⟩ := by kernel_rfl
theorem dg49 : digest Tryz.prog 49 = some ⟨.struct [(0, 3), (1, 47)], 2, 32, [.d (.int .i64 0), .nil]⟩ := by kernel_rfl
theorem dg56 : digest Tryz.prog 56 = some ⟨.struct [(0, 4), (1, 40), (3, 4), (4, 4), (5, 40), (7, 4), (8, 4)], 9, 56, [.d (.bool false), .d (.int .i64 0), .d (.int .i64 0), .d (.bool false), .d (.bool false), .d (.int .i64 0), .d (.int .i64 0), .d (.bool false), .d (.bool false)]⟩ := by kernel_rfl
theorem dg64 : digest Tryz.prog 64 = some ⟨.slice 3, 1, 24, [.nil]⟩ := by kernel_rfl
theorem dg66 : digest Tryz.prog 66 = some ⟨.struct [(0, 64), (1, 3), (2, 4)], 3, 40, [.nil, .d (.int .i64 0), .d (.bool false)]⟩ := by kernel_rfl
theorem dg126 : digest Tryz.prog 126 = some ⟨.slice 24, 1, 24, [.nil]⟩ := by kernel_rfl
theorem dg129 : digest Tryz.prog 129 = some ⟨.slice 171, 1, 24, [.nil]⟩ := by kernel_rfl
theorem dg131 : digest Tryz.prog 131 = some ⟨.struct [(0, 3), (1, 129)], 2, 32, [.d (.int .i64 0), .nil]⟩ := by kernel_rfl
theorem dg149 : digest Tryz.prog 149 = some ⟨.int .u64, 1, 8, [.d (.int .u64 0)]⟩ := by kernel_rfl
theorem dg167 : digest Tryz.prog 167 = some ⟨.int .u32, 1, 4, [.d (.int .u32 0)]⟩ := by kernel_rfl
theorem dg169 : digest Tryz.prog 169 = some ⟨.int .u64, 1, 8, [.d (.int .u64 0)]⟩ := by kernel_rfl
theorem dg171 : digest Tryz.prog 171 = some ⟨.struct [(0, 64), (1, 3), (2, 4)], 3, 40, [.nil, .d (.int .i64 0), .d (.bool false)]⟩ := by kernel_rfl
attribute [simp] dg2 dg3 dg4 dg5 dg9 dg22 dg24 dg26 dg31 dg33 dg35 dg40 dg47 dg49 dg56 dg64 dg66 dg126 dg129 dg131 dg149 dg167 dg169 dg171
end Go.Proofs.YtjknjekemolndaaGreat.ZL
namespace Go.Proofs.YtjknjekemolndaaGreat.Abs
open Go Go.RowKit
set_option linter.unusedVariables false
set_option linter.unusedSimpArgs false
def onP {α : Type} (o : Option (Prop × α)) (K : α → Prop) : Prop := match o with
  | some (c, v) => c ∧ K v
  | none => False
theorem onP_some {α : Type} (c : Prop) (v : α) (K : α → Prop) : onP (some (c, v)) K = (c ∧ K v) := rfl
theorem onP_none {α : Type} (K : α → Prop) : onP none K = False := rfl
@[congr] theorem onP_congr {α : Type} {o o' : Option (Prop × α)} {K : α → Prop} (h : o = o') : onP o K = onP o' K := by subst h; rfl
section
variable {P : Program} {H : Store} {KV : V → Prop} {K : Eff → Prop}
def fieldR (P : Program) (t : TypeId) (x : V) (f : Nat) : Option (Prop × V) := match digest P t with
  | some ⟨.struct fs, _, _, _⟩ => match fs[f]? with
    | some (o, ft) => match digest P ft with
      | some I => match x with
        | .ptr k p => some (I.size ≠ 0, .ptr k (p + o))
        | .adr s p => some (I.size ≠ 0, .adr s (p + o))
        | _ => none
      | none => none
    | none => none
  | _ => none
theorem fieldS_on (t : TypeId) (x : V) (f : Nat) : fieldS P t x f KV = onP (fieldR P t x f) KV := by
  unfold fieldS fieldR
  cases digest P t with
  | none => rfl
  | some I =>
  obtain ⟨k, a1, b1, c1⟩ := I
  cases k <;> try rfl
  rename_i fs
  simp only
  cases fs[f]? with
  | none => rfl
  | some p =>
  obtain ⟨o, ft⟩ := p
  simp only
  cases digest P ft with
  | none => rfl
  | some I => cases x <;> first | rfl | exact propext ⟨fun h => h.2.elim, fun h => h.elim⟩
def partR (I : TI) (c : List V) (o : Nat) : Option (Prop × V) :=
  if isStruct I.k = true then some (o + I.size ≤ c.length, .agg (cut c o I.size)) else match c[o]? with
    | some v => some (True, v)
    | none => none
theorem partV_on (I : TI) (c : List V) (o : Nat) : partV I c o KV = onP (partR I c o) KV := by
  unfold partV partR
  split
  · rfl
  · cases c[o]? with
    | none => rfl
    | some v => exact propext ⟨fun h => ⟨trivial, h⟩, fun h => h.2⟩
def fieldVR (P : Program) (t : TypeId) (x : V) (f : Nat) : Option (Prop × V) := match digest P t with
  | some ⟨.struct fs, _, _, _⟩ => match fs[f]? with
    | some (o, ft) => match digest P ft, x with
      | some I, .agg c => partR I c o
      | _, _ => none
    | none => none
  | _ => none
theorem fieldV_on (t : TypeId) (x : V) (f : Nat) : fieldV P t x f KV = onP (fieldVR P t x f) KV := by
  unfold fieldV fieldVR
  cases digest P t with
  | none => rfl
  | some I =>
  obtain ⟨k, a1, b1, c1⟩ := I
  cases k <;> try rfl
  rename_i fs
  simp only
  cases fs[f]? with
  | none => rfl
  | some p =>
  obtain ⟨o, ft⟩ := p
  simp only
  cases digest P ft with
  | none => rfl
  | some I => cases x <;> first | rfl | exact partV_on _ _ _
def indexR (P : Program) (t : TypeId) (x i : V) : Option (Prop × V) := match digest P t with
  | some ⟨.slice e, _, _, _⟩ => match digest P e, i, lenV x with
    | some I, .d (.int _ n), some m => some (0 ≤ n ∧ n < m, .adr x (n.toNat * I.size))
    | _, _, _ => none
  | _ => none
theorem indexS_on (t : TypeId) (x i : V) : indexS P t x i KV = onP (indexR P t x i) KV := by
  unfold indexS indexR
  cases digest P t with
  | none => rfl
  | some I =>
  obtain ⟨k, a1, b1, c1⟩ := I
  cases k <;> try rfl
  rename_i e
  simp only
  cases digest P e with
  | none => rfl
  | some I =>
  cases i <;> try rfl
  rename_i d
  cases d <;> try rfl
  cases lenV x <;> rfl
def sliceR (sz : Nat) (x : V) (lo hi : Option V) : Option (Prop × V) := match x with
  | .d (.sl n c) => match lo, hi with
    | none, none => some (True, x)
    | some (.d (.int _ l)), none => some (0 ≤ l ∧ l ≤ n, .d (.sl (n - l.toNat) ((c.drop (l.toNat * sz)).take ((n - l.toNat) * sz))))
    | none, some (.d (.int _ h)) => some (0 ≤ h ∧ h ≤ n, .d (.sl h.toNat (c.take (h.toNat * sz))))
    | some (.d (.int _ l)), some (.d (.int _ h)) => some (0 ≤ l ∧ l ≤ h ∧ h ≤ n, .d (.sl (h.toNat - l.toNat) ((c.drop (l.toNat * sz)).take ((h.toNat - l.toNat) * sz))))
    | _, _ => none
  | .ref k n => match lo, hi with
    | some (.d (.int _ l)), none => some (0 ≤ l ∧ l ≤ n, .sub k sz l.toNat (n - l.toNat))
    | none, some (.d (.int _ h)) => some (0 ≤ h ∧ h ≤ n, .sub k sz 0 h.toNat)
    | _, _ => none
  | _ => none
def sliceTR (P : Program) (t : TypeId) (x : V) (lo hi : Option V) : Option (Prop × V) := match digest P t with
  | some ⟨.slice e, _, _, _⟩ => match digest P e with
    | some I => sliceR I.size x lo hi
    | none => none
  | _ => none
theorem sliceS_on (sz : Nat) (x : V) (lo hi : Option V) : sliceS sz x lo hi KV = onP (sliceR sz x lo hi) KV := by
  unfold sliceS sliceR
  cases x <;> try rfl
  rotate_left
  · rename_i k n
    cases lo with
    | none =>
      cases hi with
      | none => rfl
      | some v => cases v <;> try rfl
                  rename_i d; cases d <;> rfl
    | some v =>
      cases v <;> cases hi <;> try rfl
      · rename_i d; cases d <;> rfl
      · rename_i d w; cases d <;> cases w <;> rfl
  rename_i d
  cases d <;> try rfl
  have ht : ∀ v : V, KV v = onP (some (True, v)) KV := fun v => propext ⟨fun h => ⟨trivial, h⟩, fun h => h.2⟩
  cases lo with
  | none =>
    cases hi with
    | none => exact ht _
    | some v => cases v <;> try rfl
                rename_i d; cases d <;> rfl
  | some v =>
    cases v <;> cases hi <;> try rfl
    · rename_i d; cases d <;> rfl
    · rename_i d w; cases d <;> cases w <;> try rfl
      rename_i d; cases d <;> rfl
theorem sliceT_on (t : TypeId) (x : V) (lo hi : Option V) : sliceT P t x lo hi KV = onP (sliceTR P t x lo hi) KV := by
  unfold sliceT sliceTR
  cases digest P t with
  | none => rfl
  | some I =>
  obtain ⟨k, a1, b1, c1⟩ := I
  cases k <;> try rfl
  rename_i e
  simp only
  cases digest P e with
  | none => rfl
  | some I => exact sliceS_on _ _ _ _
def boolR (P : Program) (t : TypeId) (v : V) : Option (Prop × V) := match digest P t with
  | some ⟨.bool, _, _, _⟩ => some (True, v)
  | _ => none
theorem boolS_on (t : TypeId) (v : V) : boolS P t v KV = onP (boolR P t v) KV := by
  unfold boolS boolR
  cases digest P t with
  | none => rfl
  | some I =>
  obtain ⟨k, a1, b1, c1⟩ := I
  cases k <;> try rfl
  exact propext ⟨fun h => ⟨trivial, h⟩, fun h => h.2⟩
def convR (P : Program) (s t : TypeId) (x : V) : Option (Prop × V) := match digest P s, digest P t, x with
  | some ⟨.int _, _, _, _⟩, some ⟨.int k, _, _, _⟩, .d (.int _ n) => some (True, .d (.int k (k.wrap n)))
  | _, _, _ => none
theorem convS_on (s t : TypeId) (x : V) : convS P s t x KV = onP (convR P s t x) KV := by
  unfold convS convR
  cases digest P s with
  | none => rfl
  | some J =>
  obtain ⟨k2, a2, b2, c2⟩ := J
  cases k2 <;> try rfl
  cases digest P t with
  | none => rfl
  | some I =>
  obtain ⟨k, a1, b1, c1⟩ := I
  cases k <;> try rfl
  cases x <;> try rfl
  rename_i d
  cases d <;> try rfl
  exact propext ⟨fun h => ⟨trivial, h⟩, fun h => h.2⟩
def buildR (P : Program) (t : TypeId) (ps : List (Nat × V)) : Option (Prop × V) := match digest P t with
  | some ⟨.struct fs, _, _, zc⟩ => match fillV P fs zc ps with
    | some c => some ((fs.all fun f => (digest P f.2).isSome) = true, .agg c)
    | none => none
  | _ => none
theorem buildV_on (t : TypeId) (ps : List (Nat × V)) : buildV P t ps KV = onP (buildR P t ps) KV := by
  unfold buildV buildR
  cases digest P t with
  | none => rfl
  | some I =>
  obtain ⟨k, a1, b1, c1⟩ := I
  cases k <;> try rfl
  rename_i fs
  simp only
  cases fillV P fs c1 ps with
  | none => exact propext ⟨fun h => h.2.elim, fun h => h.elim⟩
  | some c => rfl
def lenR (P : Program) (t : TypeId) (x : V) : Option (Prop × V) := match digest P t, lenV x with
  | some ⟨.slice _, _, _, _⟩, some n => some (True, .d (.int .i64 n))
  | _, _ => none
theorem lenS_on (t : TypeId) (x : V) : lenS P t x KV = onP (lenR P t x) KV := by
  unfold lenS lenR
  cases digest P t with
  | none => rfl
  | some I =>
  obtain ⟨k, a1, b1, c1⟩ := I
  cases k <;> try rfl
  cases lenV x with
  | none => rfl
  | some n => exact propext ⟨fun h => ⟨trivial, h⟩, fun h => h.2⟩
def loadR (P : Program) (o : Option (List V × Nat)) (t : TypeId) : Option (Prop × V) := match o, digest P t with
  | some (c, o), some I => partR I c o
  | _, _ => none
theorem loadC_on (o : Option (List V × Nat)) (t : TypeId) : loadC P o t KV = onP (loadR P o t) KV := by
  unfold loadC loadR
  cases o with
  | none => rfl
  | some p =>
  obtain ⟨c, o⟩ := p
  cases digest P t with
  | none => rfl
  | some I => exact partV_on _ _ _
def storeR (P : Program) (H : Store) (t : TypeId) (p v : V) : Option (Prop × Eff) := match digest P t with
  | some I => match writeAt H p (cellsV v) with
    | some (k, e) => some (okC v = true ∧ (cellsV v).length = I.size ∧ (cellsV v).all V.one = true, ⟨.unk, [k], [k], up1 k (some e) noUp⟩)
    | none => none
  | none => none
theorem storeS_on (t : TypeId) (p v : V) : storeS P H t p v K = onP (storeR P H t p v) K := by
  unfold storeS storeR
  cases digest P t with
  | none => rfl
  | some I =>
  simp only
  cases writeAt H p (cellsV v) with
  | none => exact propext ⟨fun h => h.2.elim, fun h => h.elim⟩
  | some q => rfl
def allocR (P : Program) (s : Nat) (t : TypeId) : Option (Prop × Eff) := match digest P t with
  | some I => some (True, ⟨.ptr (s, 0) 0, [], [], up1 (s, 0) (some (.box I.zc)) noUp⟩)
  | none => none
theorem allocS_on (s : Nat) (t : TypeId) : allocS P s t K = onP (allocR P s t) K := by
  unfold allocS allocR
  cases digest P t with
  | none => rfl
  | some I => exact propext ⟨fun h => ⟨trivial, h⟩, fun h => h.2⟩
def boxR (s : Nat) (x : V) : Option (Prop × Eff) := some (okC x = true, ⟨.ptr (s, 0) 0, [], [], up1 (s, 0) (some (.box (cellsV x))) noUp⟩)
theorem boxS_on (s : Nat) (x : V) : boxS s x K = onP (boxR s x) K := rfl
def buildSR (P : Program) (own : Bool) (s : Nat) (t : TypeId) (len : Nat) (ps : List (Nat × V)) : Option (Prop × Eff) := match digest P t with
  | some ⟨.slice e, _, _, _⟩ => match digest P e with
    | some I => if len = 0 then some (ps = [], ⟨.nil, [], [], noUp⟩) else match fillR I.size (repV len I.zc) ps with
      | some c => match (if own = true then none else asDs c) with
        | some cs => some (len * I.size ≤ 16777216 ∧ 0 < I.size ∧ I.zc.length = I.size, ⟨.d (.sl len cs), [], [], noUp⟩)
        | none => some (len * I.size ≤ 16777216 ∧ 0 < I.size ∧ I.zc.length = I.size, ⟨.ref (s, 0) len, [], [], up1 (s, 0) (some (.row e len c)) noUp⟩)
      | none => none
    | none => none
  | _ => none
theorem buildS_on (own : Bool) (s : Nat) (t : TypeId) (len : Nat) (ps : List (Nat × V)) : buildS P own s t len ps K = onP (buildSR P own s t len ps) K := by
  unfold buildS buildSR
  cases digest P t with
  | none => rfl
  | some I =>
  obtain ⟨k, a1, b1, c1⟩ := I
  cases k <;> try rfl
  rename_i e
  simp only
  cases digest P e with
  | none => rfl
  | some I =>
  simp only
  by_cases h0 : len = 0
  · rw [if_pos h0, if_pos h0]; rfl
  · rw [if_neg h0, if_neg h0]
    cases fillR I.size (repV len I.zc) ps with
    | none => exact propext ⟨fun h => h.2.elim, fun h => h.elim⟩
    | some c =>
    simp only
    cases (if own = true then none else asDs c) <;> rfl
def makeR (P : Program) (s : Nat) (t : TypeId) (l c : V) : Option (Prop × Eff) := match digest P t, l, c with
  | some ⟨.slice e, _, _, _⟩, .d (.int _ n), .d (.int _ m) => match digest P e with
    | some I => some ((m = n ∨ (n = 0 ∧ 0 ≤ m)) ∧ 0 ≤ n ∧ I.bytes * m.toNat ≤ 281474976710656 ∧ m.toNat ≤ maxLen ∧ I.zc.length = I.size, ⟨.ref (s, 0) n.toNat, [], [], up1 (s, 0) (some (.row e n.toNat (repV n.toNat I.zc))) noUp⟩)
    | none => none
  | _, _, _ => none
theorem makeS_on (s : Nat) (t : TypeId) (l c : V) : makeS P s t l c K = onP (makeR P s t l c) K := by
  unfold makeS makeR
  cases digest P t with
  | none => rfl
  | some I =>
  obtain ⟨k, a1, b1, c1⟩ := I
  cases k <;> try rfl
  rename_i e
  cases l <;> try rfl
  rename_i d
  cases d <;> try rfl
  cases c <;> try rfl
  rename_i d
  cases d <;> try rfl
  simp only
  cases digest P e <;> rfl
def appendR (P : Program) (H : Store) (s : Nat) (t : TypeId) (b x : V) : Option (Prop × Eff) := match digest P t with
  | some ⟨.slice e, _, _, _⟩ => match digest P e, baseOf H b e, newsOf H x with
    | some I, some (kb, n, c), some (m, c2, ks) => some (0 < I.size ∧ c2.length = m * I.size ∧ c2.all V.one = true ∧ (n + m) * I.bytes ≤ 140737488355328 ∧ n + m ≤ maxLen ∧ I.zc.length = I.size, ⟨.ref (s, 0) (n + m), kb.toList ++ ks, kb.toList, upApp s e (n + m) (c ++ c2) kb⟩)
    | _, _, _ => none
  | _ => none
theorem appendS_on (s : Nat) (t : TypeId) (b x : V) : appendS P H s t b x K = onP (appendR P H s t b x) K := by
  unfold appendS appendR
  cases digest P t with
  | none => rfl
  | some I =>
  obtain ⟨k, a1, b1, c1⟩ := I
  cases k <;> try rfl
  rename_i e
  simp only
  cases digest P e with
  | none => rfl
  | some I =>
  cases baseOf H b e with
  | none => rfl
  | some q =>
  obtain ⟨kb, n, c⟩ := q
  cases newsOf H x with
  | none => rfl
  | some q2 => rfl
end
attribute [simp ↓] fieldS_on partV_on fieldV_on indexS_on sliceT_on boolS_on convS_on buildV_on lenS_on loadC_on storeS_on allocS_on boxS_on buildS_on makeS_on appendS_on
attribute [simp] onP_some onP_none fieldR partR fieldVR indexR sliceR sliceTR boolR convR buildR lenR loadR storeR allocR boxR buildSR makeR appendR
end Go.Proofs.YtjknjekemolndaaGreat.Abs
namespace Go.Proofs.YtjknjekemolndaaGreat.Abs
open Go Go.RowKit
set_option linter.unusedVariables false
section
variable {P : Program} {N : Nat}
theorem DenVs.setNth {M : Key → Option Value} {F : Nat → Prop} {w : World} {v : V} {u : Value} : ∀ {c : List V} {us : List Value} {i : Nat}, DenVs M F w c us → us[i]? = some u → DenV M F w v u → DenVs M F w (c.set i v) us := by
  intro c us i h hu hv
  refine DenVs.of_get (by simp [h.length]) (fun j x u' hx hu' => ?_)
  rw [List.getElem?_set] at hx
  split at hx
  · rename_i hj
    subst hj
    split at hx
    · rw [hu] at hu'
      obtain rfl := Option.some.inj hu'
      obtain rfl := Option.some.inj hx
      exact hv
    · exact absurd hx (by simp)
  · obtain ⟨u2, h1, h2⟩ := h.get hx
    rw [h1] at hu'
    obtain rfl := Option.some.inj hu'
    exact h2
theorem Le.nilBox {T : Nat → V} {H : Store} {nx : Nat} (k : Key) (i : Nat) (t : TypeId) {c : List V} (hk : H k = some (.box c)) (hi : c[i]? = some .nil) : Le P N ⟨T, H, nx⟩ ⟨T, setH k (some (.box (c.set i (.ref (nx, 0) 0)))) (setH (nx, 0) (some (.row t 0 [])) H), nx + 1⟩ := fun w0 F0 E0 a w h => by
  obtain ⟨M, F, hat⟩ := h
  obtain ⟨up, hMk, hok, hFb⟩ := hat.real.ent k _ hk
  have hok' := hok
  obtain ⟨b, cs, ty, rfl, hcells, hden⟩ := hok
  obtain ⟨un, hun, h1⟩ := hden.get hi
  unfold DenV at h1
  obtain ⟨A, hA⟩ := h1
  have hbk : ∀ b, blkOf (.slice A 0 0) ≠ some b := by intro b; cases A <;> simp [blkOf]
  let M' : Key → Option Value := fun k => if k = (nx, 0) then some (.slice A 0 0) else M k
  have hMn : M (nx, 0) = none := hat.free (nx, 0) (Nat.le_refl nx)
  have hkn : k ≠ (nx, 0) := fun e => by rw [e, hMn] at hMk; exact absurd hMk (by simp)
  have hM : ∀ k x, M k = some x → M' k = some x := by
    intro k x hk
    show (if k = (nx, 0) then some (Value.slice A 0 0) else M k) = some x
    rw [if_neg (fun e => by subst e; rw [hMn] at hk; exact absurd hk (by simp))]
    exact hk
  have hMk1 : M' (nx, 0) = some (.slice A 0 0) := by show (if (nx, 0) = (nx, 0) then _ else _) = _; rw [if_pos rfl]
  have hR1 : Real P M' F w (setH (nx, 0) (some (.row t 0 [])) H) :=
    hat.real.set hM (Holds.refl F w) (fun b h => h) (fun j e hj h => h) (fun _ _ _ _ _ _ _ _ _ => rfl) hMk1 (.inr ⟨A, rfl, rfl, rfl⟩) (fun _ b hb => absurd hb (hbk b)) (fun _ _ _ b _ _ _ _ _ _ hb => absurd hb (hbk b))
  have hk1 : setH (nx, 0) (some (.row t 0 [])) H k = some (.box c) := by simp [setH, hkn, hk]
  have hdn : DenV M' F w (.ref (nx, 0) 0) un := by
    unfold DenV
    exact ⟨by rw [hMk1, hA], A, 0, hA, .inl rfl, Nat.le_refl _⟩
  have hR2 : Real P M' F w (setH k (some (.box (c.set i (.ref (nx, 0) 0)))) (setH (nx, 0) (some (.row t 0 [])) H)) :=
    hR1.set (fun _ _ h => h) (Holds.refl F w) (fun b h => h) (fun j e hj h => h) (fun _ _ _ _ _ _ _ _ _ => rfl) (hM _ _ hMk)
      ⟨b, cs, ty, rfl, hcells, (hden.move hM (Holds.refl F w)).setNth hun hdn⟩ (fun _ b' hb => hFb rfl b' hb)
      (fun j e u b' hj hje hl _ hu hb hb2 => hj (hR1.inj j k e _ u _ b' hje hk1 hl rfl hu (hM _ _ hMk) hb hb2))
  refine ⟨M', F, hat.keep, hR2, fun j => (hat.tmps j).move hM (Holds.refl F w), fun k hk => ?_, fun k2 e u b2 hk2 hl hu hb => ?_, hat.defers, hat.size, hat.chg, hat.lt0, fun k u hb => hM k u (hat.base k u hb)⟩
  · show (if k = (nx, 0) then _ else M k) = none
    have hk' : nx + 1 ≤ k.1 := hk
    rw [if_neg (fun e => by rw [e] at hk'; simp at hk'; omega)]
    exact hat.free k (by show nx ≤ k.1; omega)
  · by_cases hkn2 : k2 = (nx, 0)
    · subst hkn2
      rw [hMk1] at hu
      obtain rfl := Option.some.inj hu
      exact absurd hb (hbk b2)
    · have hMe : M' k2 = M k2 := by show (if k2 = (nx, 0) then _ else M k2) = _; rw [if_neg hkn2]
      rw [hMe] at hu
      by_cases hkk : k2 = k
      · subst hkk
        exact hat.reach k2 _ u b2 hk rfl hu hb
      · simp only [setH, if_neg hkk, if_neg hkn2] at hk2
        exact hat.reach k2 e u b2 hk2 hl hu hb
theorem WP.loopF {Q : Exit → St → Prop} {S : St} (hm : P.follows .mixedOrders = true) {α : Type} (O : List Nat) (st : α → St) (ok : α → Prop) (m : α → Nat) (x0 : α) {c : Code} (hc : codeOk N (rooted O) c = true) (h0 : Le P N S (st x0)) (hx : ok x0)
    (round : ∀ x, ok x → ∃ S1, Le P N (st x) S1 ∧ WP P N O c (seqQ (fun S' => ∃ y, ok y ∧ m y < m x ∧ Le P N S' (st y)) Q) S1) : W P N (.loop c) Q S :=
  W.loop st ok m x0 h0 hx fun x hx => by
    obtain ⟨S1, hl, h⟩ := round x hx
    exact W.le hl (WP.sound hm hc h)
theorem wr {x : Int} (h : -9223372036854775808 ≤ x) (h' : x ≤ 9223372036854775807) : IntKind.wrap .i64 x = x := by
  simp only [IntKind.wrap, IntKind.signed, IntKind.bits]
  simp
  omega
theorem RLe.dd {H : Store} {a b : D} (h : a = b) : RLe P H (.d a) (.d b) hemp := by subst h; exact RLe.pure 1 rfl
theorem RLe.bb {H : Store} {a b : Bool} (h : a = b) : RLe P H (.d (.bool a)) (.d (.bool b)) hemp := RLe.dd (by rw [h])
theorem RLe.ii {H : Store} {k : IntKind} {a b : Int} (h : a = b) : RLe P H (.d (.int k a)) (.d (.int k b)) hemp := RLe.dd (by rw [h])
theorem joinO_map0 (al : Bool) (H : Store) (n : Nat) (cs : List D) : joinO (List.map (lendD al H n ∘ V.d) cs) = some (cs, []) := by
  rw [← List.map_map]; exact joinO_map ..
theorem joinO_mapf {α : Type} (al : Bool) (H : Store) (n : Nat) (f : α → D) (cs : List α) : joinO (List.map (lendD al H n ∘ (V.d ∘ f)) cs) = some (cs.map f, []) := by
  have := joinO_map0 al H n (cs.map f)
  rwa [List.map_map] at this
theorem lendD_d (al : Bool) (H : Store) (n : Nat) (x : D) : lendD al H n (.d x) = some (x, []) := by cases n <;> rfl
theorem lendD_nil (al : Bool) (H : Store) (n : Nat) : lendD al H n .nil = some (.sl 0 [], []) := by cases n <;> rfl
def consK (m : Nat) (k : Key) : Option (List D × List Key) → Option (D × List Key)
  | some (cs, ks) => some (.sl m cs, k :: ks)
  | none => none
def lendR (al : Bool) (H : Store) (n : Nat) (k : Key) (m : Nat) : Option Ent → Option (D × List Key)
  | some (.fz m' c) => if m' = m then some (.sl m c, [k]) else none
  | some (.row _ m' c) => if al = true ∧ m' = m then consK m k (joinO (c.map (lendD al H n))) else none
  | _ => none
theorem lendD_ref (al : Bool) (H : Store) (n : Nat) (k : Key) (m : Nat) : lendD al H (n + 1) (.ref k m) = lendR al H n k m (H k) := by
  simp only [lendD]
  cases H k with
  | none => rfl
  | some e => cases e <;> rfl
attribute [simp] lendT lendV lendVs joinO joinO_map0 joinO_mapf lendD_d lendD_nil lendD_ref lendR consK
def dl (cs : List D) : List V := cs.map V.d
theorem dl_len (cs : List D) : (dl cs).length = cs.length := by simp [dl]
theorem dl_cons (cs : List D) (x : D) (r : List V) : dl cs ++ (V.d x :: r) = dl (cs ++ [x]) ++ r := by simp [dl]
theorem dl_app (cs ds : List D) : dl cs ++ dl ds = dl (cs ++ ds) := by simp [dl]
theorem dl_map (cs ds : List D) : dl cs ++ ds.map V.d = dl (cs ++ ds) := by simp [dl]
theorem dl_mapf {α : Type} (cs : List D) (f : α → D) (ds : List α) : dl cs ++ ds.map (V.d ∘ f) = dl (cs ++ ds.map f) := by simp [dl]
theorem dl_one (cs : List D) : (dl cs).all V.one = true := by induction cs with
  | nil => rfl
  | cons x r ih => simp only [dl, List.map_cons, List.all_cons]; exact Bool.and_eq_true_iff.2 ⟨rfl, ih⟩
theorem dl_get (cs : List D) (i : Nat) : (dl cs)[i]? = (cs[i]?).map V.d := by simp [dl]
theorem dl_drop (cs : List D) (i : Nat) : (dl cs).drop i = dl (cs.drop i) := by simp [dl]
theorem dl_take (cs : List D) (i : Nat) : (dl cs).take i = dl (cs.take i) := by simp [dl]
theorem dl_set (cs : List D) (i : Nat) (x : D) : (dl cs).set i (.d x) = dl (cs.set i x) := by simp [dl]
theorem dl_joinO (al : Bool) (H : Store) (n : Nat) (cs : List D) : joinO ((dl cs).map (lendD al H n)) = some (cs, []) := joinO_map ..
theorem dl_VLes (H : Store) (inv : Key → Key) (nx : Nat) (cs ds : List D) : VLes H inv nx (dl cs) (dl ds) ↔ cs = ds := VLes_d ..
theorem dl_VLes_nil (H : Store) (inv : Key → Key) (nx : Nat) (ds : List D) : VLes H inv nx [] (dl ds) ↔ [] = ds := dl_VLes H inv nx [] ds
theorem dl_VLes_map (H : Store) (inv : Key → Key) (nx : Nat) (cs ds : List D) : VLes H inv nx (cs.map V.d) (dl ds) ↔ cs = ds := VLes_d ..
theorem dl_asDs (cs : List D) : asDs (dl cs) = some cs := asDs_map ..
theorem map_dl (cs : List D) : cs.map V.d = dl cs := rfl
theorem map_dlf {α : Type} (f : α → D) (cs : List α) : List.map (V.d ∘ f) cs = dl (cs.map f) := by simp [dl]
theorem dl_nil : dl [] = [] := rfl
attribute [simp 1002] List.map_cons List.map_nil
attribute [simp 1001] map_dl
attribute [simp] dl_nil map_dlf
attribute [simp] dl_len dl_cons dl_app dl_map dl_mapf dl_one dl_get dl_drop dl_take dl_set dl_joinO dl_VLes dl_VLes_nil dl_VLes_map dl_asDs ELe
theorem gd0 (a0 z : V) (r : List V) : List.getD (a0 :: r) 0 z = a0 := rfl
theorem gd1 (a0 a1 z : V) (r : List V) : List.getD (a0 :: a1 :: r) 1 z = a1 := rfl
theorem gd2 (a0 a1 a2 z : V) (r : List V) : List.getD (a0 :: a1 :: a2 :: r) 2 z = a2 := rfl
theorem gd3 (a0 a1 a2 a3 z : V) (r : List V) : List.getD (a0 :: a1 :: a2 :: a3 :: r) 3 z = a3 := rfl
theorem gd4 (a0 a1 a2 a3 a4 z : V) (r : List V) : List.getD (a0 :: a1 :: a2 :: a3 :: a4 :: r) 4 z = a4 := rfl
theorem gd5 (a0 a1 a2 a3 a4 a5 z : V) (r : List V) : List.getD (a0 :: a1 :: a2 :: a3 :: a4 :: a5 :: r) 5 z = a5 := rfl
theorem gd6 (a0 a1 a2 a3 a4 a5 a6 z : V) (r : List V) : List.getD (a0 :: a1 :: a2 :: a3 :: a4 :: a5 :: a6 :: r) 6 z = a6 := rfl
attribute [simp] gd0 gd1 gd2 gd3 gd4 gd5 gd6
attribute [simp] List.getElem?_cons_zero
theorem repV_one (n : Nat) (x : D) : repV n [.d x] = dl (List.replicate n x) := by
  unfold repV dl
  refine List.ext_getElem? fun i => ?_
  simp [List.getElem?_replicate, Nat.mod_one]
  by_cases h : i < n <;> simp [h]
theorem repV_1 (zc : List V) : repV 1 zc = zc := by
  unfold repV
  refine List.ext_getElem? fun i => ?_
  simp only [Nat.one_mul, List.getElem?_map]
  by_cases h : i < zc.length
  · rw [List.getElem?_range h]
    simp [Nat.mod_eq_of_lt h, List.getD_eq_getElem?_getD, h]
  · rw [List.getElem?_eq_none (by simp; omega), List.getElem?_eq_none (by omega)]; rfl
attribute [simp] repV_one
attribute [simp high] repV_1
end
end Go.Proofs.YtjknjekemolndaaGreat.Abs
set_option linter.unusedVariables false
namespace Go.Proofs.YtjknjekemolndaaGreat.Abs.Pl
open Go
def isNum (n : Int) : Bool := decide (-400000000 ≤ n) && decide (n ≤ 400000000)
theorem isNum_iff {n : Int} : isNum n = true ↔ -400000000 ≤ n ∧ n ≤ 400000000 := by simp [isNum]
theorem isNum_neg {n : Int} (h : isNum n = true) : isNum (-n) = true := by rw [isNum_iff] at *; omega
theorem tmod_lt {a b : Int} (h : ¬ b = 0) : (a.tmod b).natAbs < b.natAbs := by
  rw [Int.natAbs_tmod]
  exact Nat.mod_lt _ (by omega)
def eu (a b : Int) : Int := if h : b = 0 then a else eu b (a.tmod b)
termination_by b.natAbs
decreasing_by exact tmod_lt h
theorem eu_gcd (a b : Int) : (eu a b).natAbs = Int.gcd a b := by
  fun_induction eu a b with
  | case1 a => simp
  | case2 a b h ih =>
    rw [ih]
    unfold Int.gcd
    rw [Int.natAbs_tmod, Nat.gcd_comm a.natAbs b.natAbs, Nat.gcd_comm b.natAbs (a.natAbs % b.natAbs), ← Nat.gcd_rec]
theorem eu_nonneg (a b : Int) (ha : 0 ≤ a) (hb : 0 ≤ b) : 0 ≤ eu a b := by
  fun_induction eu a b with
  | case1 a => exact ha
  | case2 a b h ih => exact ih hb (Int.tmod_nonneg _ ha)
theorem eu_abs (a b : Int) : eu (a.natAbs : Int) (b.natAbs : Int) = (Int.gcd a b : Int) := by
  have h := eu_gcd (a.natAbs : Int) (b.natAbs : Int)
  have h0 := eu_nonneg (a.natAbs : Int) (b.natAbs : Int) (by omega) (by omega)
  have : Int.gcd (a.natAbs : Int) (b.natAbs : Int) = Int.gcd a b := by simp [Int.gcd]
  omega
theorem gcd_le (a b : Int) (h : ¬ b = 0) : (Int.gcd a b : Int) ≤ b.natAbs := by
  have : Int.gcd a b ≤ b.natAbs := Nat.le_of_dvd (by omega) (Nat.gcd_dvd_right _ _)
  omega
theorem gcd_pos (a b : Int) (h : ¬ b = 0) : 0 < (Int.gcd a b : Int) := by
  have : 0 < Int.gcd a b := Nat.gcd_pos_of_pos_right _ (by omega)
  omega
theorem tdiv_le (a g : Int) : ((a.tdiv g).natAbs : Int) ≤ a.natAbs := by
  rw [Int.natAbs_tdiv]
  have h : a.natAbs.div g.natAbs ≤ a.natAbs := Nat.div_le_self a.natAbs g.natAbs
  omega
def gcdOf (a b : Int) : Int := if isNum a && isNum b then (Int.gcd a b : Int) else 0
def isRat (n d : Int) : Bool := decide (1 ≤ d) && decide (d ≤ 400000000) && isNum n && decide (Int.gcd n d = 1)
theorem isRat_iff {n d : Int} : isRat n d = true ↔ (1 ≤ d ∧ d ≤ 400000000) ∧ (-400000000 ≤ n ∧ n ≤ 400000000) ∧ Int.gcd n d = 1 := by
  simp only [isRat, isNum, Bool.and_eq_true, decide_eq_true_eq]
  omega
def redOf (n d : Int) : Int × Int := if isRat (n.tdiv (Int.gcd n d)) (d.tdiv (Int.gcd n d)) then (n.tdiv (Int.gcd n d), d.tdiv (Int.gcd n d)) else (0, 0)
def red (n d : Int) : Int × Int := if d = 0 then (0, 0) else if d < 0 then redOf (-n) (-d) else redOf n d
def makR (n d : Int) : Int × Int := if isNum n && isNum d then red n d else (0, 0)
def addR (a b c d : Int) : Int × Int := if isRat a b && isRat c d then red (a * d + c * b) (b * d) else (0, 0)
def mulR (a b c d : Int) : Int × Int := if isRat a b && isRat c d then red (a * c) (b * d) else (0, 0)
def divR (a b c d : Int) : Int × Int := if isRat a b && isRat c d then (if c = 0 then (0, 0) else red (a * d) (b * c)) else (0, 0)
def negR (a b : Int) : Int × Int := if isRat a b then (-a, b) else (0, 0)
def cmpR (a b c d : Int) : Int := if isRat a b && isRat c d then (if a * d < c * b then -1 else if c * b < a * d then 1 else 0) else 2
theorem mul_bd {a b : Int} (ha : -400000000 ≤ a ∧ a ≤ 400000000) (hb : -400000000 ≤ b ∧ b ≤ 400000000) : -160000000000000000 ≤ a * b ∧ a * b ≤ 160000000000000000 := by
  have h : (a * b).natAbs ≤ 400000000 * 400000000 := by
    rw [Int.natAbs_mul]
    exact Nat.mul_le_mul (by omega) (by omega)
  omega
theorem down {P : Nat → Prop} (n : Nat) (h0 : P n) (hs : ∀ i, i < n → P (i + 1) → P i) : ∀ i, i ≤ n → P i := by
  intro i hi
  obtain ⟨d, rfl⟩ : ∃ d, i = n - d := ⟨n - i, by omega⟩
  induction d with
  | zero => simpa using h0
  | succ d ih =>
    by_cases h : d < n
    · have e : n - d = (n - (d + 1)) + 1 := by omega
      exact hs _ (by omega) (by rw [← e]; exact ih (by omega))
    · have e : n - (d + 1) = n - d := by omega
      rw [e]; exact ih (by omega)
theorem getD_of_lt {α : Type} {xs : List α} {z : α} {i : Nat} (h : i < xs.length) : xs.getD i z = xs[i] := by simp [List.getD_eq_getElem?_getD, h]
theorem drop_cons {α : Type} {xs : List α} {i : Nat} (h : i < xs.length) : xs.drop i = xs[i] :: xs.drop (i + 1) := List.drop_eq_getElem_cons h
theorem mapIdx_const {α β : Type} (xs : List α) (f : α → β) : xs.mapIdx (fun _ x => f x) = xs.map f := List.ext_getElem (by simp) (by simp)
def gcdF (g : Nat) (l : List Int) : Nat := l.foldl (fun g x => Nat.gcd g x.natAbs) g
def gcdL (l : List Int) : Nat := gcdF 0 l
theorem gcdF_cons (g : Nat) (x : Int) (l : List Int) : gcdF g (x :: l) = gcdF (Nat.gcd g x.natAbs) l := rfl
theorem gcdF_eq (l : List Int) : ∀ g, gcdF g l = Nat.gcd g (gcdL l) := by
  induction l with
  | nil => intro g; simp [gcdF, gcdL]
  | cons x l ih =>
    intro g
    have e : gcdL (x :: l) = Nat.gcd x.natAbs (gcdL l) := by
      rw [gcdL, gcdF_cons, ih, Nat.gcd_zero_left]
    rw [e, gcdF_cons, ih, Nat.gcd_assoc]
theorem gcdL_cons (x : Int) (l : List Int) : gcdL (x :: l) = Nat.gcd x.natAbs (gcdL l) := by rw [gcdL, gcdF_cons, gcdF_eq, Nat.gcd_zero_left]
theorem gcdL_dvd (l : List Int) : ∀ x ∈ l, gcdL l ∣ x.natAbs := by
  induction l with
  | nil => intro x hx; cases hx
  | cons y l ih =>
    intro x hx
    rw [gcdL_cons]
    rcases List.mem_cons.1 hx with rfl | hx
    · exact Nat.gcd_dvd_left _ _
    · exact Nat.dvd_trans (Nat.gcd_dvd_right _ _) (ih x hx)
theorem gcdL_le (l : List Int) (B : Nat) (h : ∀ x ∈ l, x.natAbs ≤ B) : gcdL l ≤ B := by
  induction l with
  | nil => simp [gcdL, gcdF]
  | cons y l ih =>
    rw [gcdL_cons]
    by_cases hy : y.natAbs = 0
    · rw [hy, Nat.gcd_zero_left]; exact ih (fun x hx => h x (List.mem_cons_of_mem _ hx))
    · exact Nat.le_trans (Nat.le_of_dvd (by omega) (Nat.gcd_dvd_left _ _)) (h y List.mem_cons_self)
theorem gcdL_zero (l : List Int) : gcdL l = 0 ↔ ∀ x ∈ l, x = 0 := by
  induction l with
  | nil => simp [gcdL, gcdF]
  | cons y l ih =>
    rw [gcdL_cons, Nat.gcd_eq_zero_iff, ih]
    simp
theorem gcd_le_max (a b B : Nat) (ha : a ≤ B) (hb : b ≤ B) : Nat.gcd a b ≤ B := by
  by_cases h : a = 0
  · rw [h, Nat.gcd_zero_left]; exact hb
  · exact Nat.le_trans (Nat.le_of_dvd (by omega) (Nat.gcd_dvd_left _ _)) ha
def isAt (l : List Int) (c : Int) : Bool := decide (l.length ≤ 4) && isNum c && l.all isNum && decide (Nat.gcd (gcdL l) c.natAbs ≤ 1)
theorem isAt_iff {l : List Int} {c : Int} : isAt l c = true ↔ l.length ≤ 4 ∧ isNum c = true ∧ (∀ x ∈ l, isNum x = true) ∧ Nat.gcd (gcdL l) c.natAbs ≤ 1 := by
  simp only [isAt, Bool.and_eq_true, decide_eq_true_eq, List.all_eq_true, and_assoc]
def div1 (n : Nat) : Int := if n = 0 then 1 else (n : Int)
theorem div1_pos (n : Nat) : 0 < div1 n := by unfold div1; split <;> omega
abbrev At := List Int × Int × Bool
abbrev At2 := List Int × Int × Bool × Bool
def noAt : At2 := ([], 0, false, false)
def okAt (a : At) : At2 := (a.1, a.2.1, a.2.2, true)
def mkAt (l : List Int) (c : Int) (s : Bool) : At2 :=
  let g := div1 (Nat.gcd (gcdL l) c.natAbs)
  if isAt (l.map (·.tdiv g)) (c.tdiv g) then (l.map (·.tdiv g), c.tdiv g, s, true) else noAt
def makeAt (l : List Int) (c : Int) (s : Bool) : At2 := if decide (l.length ≤ 4) && isNum c && l.all isNum then mkAt l c s else noAt
def negAt (l : List Int) (c : Int) (s : Bool) : At2 := if isAt l c then (l.map (- ·), -c, !s, true) else noAt
def mixL (p : Int) (l1 : List Int) (q : Int) (l2 : List Int) : List Int := l1.zipWith (fun x y => p * x + q * y) l2
def mixAt (l1 : List Int) (c1 : Int) (s1 : Bool) (p : Int) (l2 : List Int) (c2 : Int) (s2 : Bool) (q : Int) : At2 :=
  if isAt l1 c1 && isAt l2 c2 && decide (l1.length = l2.length) && (decide (0 ≤ p) && decide (p ≤ 400000000)) && (decide (0 ≤ q) && decide (q ≤ 400000000)) then
    mkAt (mixL p l1 q l2) (p * c1 + q * c2) (s1 && decide (0 < p) || s2 && decide (0 < q)) else noAt
def fixAt (l : List Int) (c : Int) (s : Bool) (v : Int) (n d : Int) : At2 :=
  if isAt l c && isRat n d && (decide (0 ≤ v) && decide (v < l.length)) then mkAt ((l.map (· * d)).set v.toNat 0) (c * d + l.getD v.toNat 0 * n) s else noAt
def cmpDir (g h : Int) : List Int → List Int → Int
  | x :: xs, y :: ys => if x.tdiv g < y.tdiv h then -1 else if y.tdiv h < x.tdiv g then 1 else cmpDir g h xs ys
  | _, _ => 0
def wayAt (l1 l2 : List Int) : Int := cmpDir (div1 (gcdL l1)) (div1 (gcdL l2)) l1 l2
def sgn (a b : Int) : Int := if a < b then -1 else if b < a then 1 else 0
def strengthAt (l1 : List Int) (c1 : Int) (s1 : Bool) (l2 : List Int) (c2 : Int) (s2 : Bool) : Int :=
  if sgn (c1 * div1 (gcdL l2)) (c2 * div1 (gcdL l1)) ≠ 0 then sgn (c1 * div1 (gcdL l2)) (c2 * div1 (gcdL l1)) else if s1 = s2 then 0 else if s1 then 1 else -1
def cmpAt (l1 : List Int) (c1 : Int) (s1 : Bool) (l2 : List Int) (c2 : Int) (s2 : Bool) : Int :=
  if isAt l1 c1 && isAt l2 c2 && decide (l1.length = l2.length) then (if wayAt l1 l2 ≠ 0 then wayAt l1 l2 else strengthAt l1 c1 s1 l2 c2 s2) else 2
theorem mkAt_len (l : List Int) (c : Int) (s : Bool) : (mkAt l c s).1.length ≤ 4 := by
  unfold mkAt
  simp only []
  split
  · rename_i h
    exact (isAt_iff.1 h).1
  · simp [noAt]
theorem makeAt_len (l : List Int) (c : Int) (s : Bool) : (makeAt l c s).1.length ≤ 4 := by
  unfold makeAt
  split
  · exact mkAt_len _ _ _
  · simp [noAt]
theorem negAt_len (l : List Int) (c : Int) (s : Bool) : (negAt l c s).1.length ≤ 4 := by
  unfold negAt
  split
  · rename_i h
    simpa using (isAt_iff.1 h).1
  · simp [noAt]
theorem mixAt_len (l1 : List Int) (c1 : Int) (s1 : Bool) (p : Int) (l2 : List Int) (c2 : Int) (s2 : Bool) (q : Int) : (mixAt l1 c1 s1 p l2 c2 s2 q).1.length ≤ 4 := by
  unfold mixAt
  split
  · exact mkAt_len _ _ _
  · simp [noAt]
theorem fixAt_len (l : List Int) (c : Int) (s : Bool) (v n d : Int) : (fixAt l c s v n d).1.length ≤ 4 := by
  unfold fixAt
  split
  · exact mkAt_len _ _ _
  · simp [noAt]
def mkI (k : Int) : Nat → List Int
  | 0 => []
  | n + 1 => k :: mkI (k + 1) n
theorem mkI_length (n : Nat) : ∀ k, (mkI k n).length = n := by
  induction n with
  | zero => intro k; rfl
  | succ n ih => intro k; simp [mkI, ih]
theorem mkI_get (n : Nat) : ∀ (k : Int) (i : Nat) (h : i < (mkI k n).length), (mkI k n)[i] = k + i := by
  induction n with
  | zero => intro k i h; simp [mkI] at h
  | succ n ih =>
    intro k i h
    cases i with
    | zero => simp [mkI]
    | succ i => simp [mkI, ih]; omega
theorem natAbs_le_of {x : Int} {B : Nat} (h : -(B : Int) ≤ x ∧ x ≤ B) : x.natAbs ≤ B := by omega
abbrev Ce := Int × List At
def isCe (d : Int) (l : List At) : Bool := (decide (0 ≤ d) && decide (d ≤ 4)) && decide (l.length ≤ 16) && l.all fun a => isAt a.1 a.2.1 && decide ((a.1.length : Int) = d)
theorem isCe_iff {d : Int} {l : List At} : isCe d l = true ↔ (0 ≤ d ∧ d ≤ 4) ∧ l.length ≤ 16 ∧ ∀ a ∈ l, isAt a.1 a.2.1 = true ∧ (a.1.length : Int) = d := by
  simp only [isCe, Bool.and_eq_true, decide_eq_true_eq, List.all_eq_true, and_assoc]
def isRe (d : Int) (l : List Ce) : Bool := (decide (0 ≤ d) && decide (d ≤ 4)) && decide (l.length ≤ 12) && l.all fun c => isCe c.1 c.2 && decide (c.1 = d)
theorem isRe_iff {d : Int} {l : List Ce} : isRe d l = true ↔ (0 ≤ d ∧ d ≤ 4) ∧ l.length ≤ 12 ∧ ∀ c ∈ l, isCe c.1 c.2 = true ∧ c.1 = d := by
  simp only [isRe, Bool.and_eq_true, decide_eq_true_eq, List.all_eq_true, and_assoc]
def lft (a : Int) (n : Nat) : Int := if a < (n : Int) then -1 else a - n
theorem lft_neg {a : Int} {n : Nat} (h : lft a n < 0) : a < n ∨ a < 0 := by unfold lft at h; split at h <;> omega
theorem lft_nn {a : Int} {n : Nat} (h : ¬ lft a n < 0) : (n : Int) ≤ a ∧ lft a n = a - n := by unfold lft at h ⊢; split at h <;> (try split) <;> omega
def sumL (l : List Nat) : Nat := l.foldr (· + ·) 0
theorem sumL_mem {l : List Nat} {n : Nat} (h : n ∈ l) : n ≤ sumL l := by
  induction l with
  | nil => cases h
  | cons x l ih =>
    simp only [sumL, List.foldr_cons]
    rcases List.mem_cons.1 h with rfl | h
    · omega
    · have := ih h; unfold sumL at this; omega
def isPoint (p : List (Int × Int)) (d : Int) : Bool := decide ((p.length : Int) = d) && p.all fun r => isRat r.1 r.2
theorem isPoint_len {p : List (Int × Int)} {d : Int} (h : isPoint p d = true) : (p.length : Int) = d := by
  unfold isPoint at h
  simp only [Bool.and_eq_true, decide_eq_true_eq] at h
  exact h.1
def valGo : List Int → List (Int × Int) → Int × Int → Int × Int
  | x :: xs, r :: rs, v => valGo xs rs (addR v.1 v.2 (mulR x 1 r.1 r.2).1 (mulR x 1 r.1 r.2).2)
  | _, _, v => v
def valFin (v : Int × Int) : Int × Int × Bool := (v.1, v.2, isRat v.1 v.2)
def valAt (l : List Int) (c : Int) (p : List (Int × Int)) : Int × Int × Bool := if isAt l c && isPoint p l.length then valFin (valGo l p (c, 1)) else (0, 0, false)
def holdAt (l : List Int) (c : Int) (s : Bool) (p : List (Int × Int)) : Bool × Bool :=
  if (valAt l c p).2.2 then (decide ((valAt l c p).1 < 0) || decide ((valAt l c p).1 = 0) && !s, true) else (false, false)
def addMul (n : Int) (coef sum : List Int) : List Int := sum.mapIdx fun j x => x + n * coef.getD j 0
def refEnd (sum : List Int) (k : Int) (st : Bool) : Bool := (sum.all fun x => decide (x = 0)) && (decide (0 < k) || decide (k = 0) && st)
def refGo (sum : List Int) (k : Int) (st : Bool) : List Int → List At → Bool
  | n :: ns, a :: tl_ => if decide (0 ≤ n) && decide (n ≤ 400000000) then refGo (addMul n a.1 sum) (k + n * a.2.1) (st || decide (0 < n) && a.2.2) ns tl_ else false
  | _, _ => refEnd sum k st
def isRef (d : Int) (l : List At) (m : List Int) : Bool := if isCe d l && decide (m.length = l.length) then refGo (List.replicate d.toNat 0) 0 false m l else false
def inGo (p : List (Int × Int)) : List At → Bool → Bool × Bool
  | [], b => (b, true)
  | a :: tl_, b => if (holdAt a.1 a.2.1 a.2.2 p).2 then inGo p tl_ (b && (holdAt a.1 a.2.1 a.2.2 p).1) else (false, false)
def inCe (d : Int) (l : List At) (p : List (Int × Int)) : Bool × Bool := if isCe d l && isPoint p d then inGo p l true else (false, false)
def inRo (p : List (Int × Int)) : List Ce → Bool → Bool × Bool
  | [], b => (b, true)
  | c :: cs, b => if (inCe c.1 c.2 p).2 then inRo p cs (b || (inCe c.1 c.2 p).1) else (false, false)
def inRe (d : Int) (l : List Ce) (p : List (Int × Int)) : Bool × Bool := if isRe d l && isPoint p d then inRo p l false else (false, false)
def lexC : List Int → List Int → Int
  | x :: xs, y :: ys => if x < y then -1 else if y < x then 1 else lexC xs ys
  | _, _ => 0
theorem lexC_flip : ∀ a b, lexC b a = - lexC a b
  | [], [] => rfl
  | [], _ :: _ => rfl
  | _ :: _, [] => rfl
  | x :: xs, y :: ys => by
    have ih := lexC_flip xs ys
    unfold lexC
    by_cases h : x < y
    · rw [if_neg (show ¬ y < x by omega), if_pos h, if_pos h]; rfl
    · by_cases h' : y < x
      · rw [if_pos h', if_neg h, if_pos h']
      · rw [if_neg h', if_neg h, if_neg h, if_neg h']; exact ih
theorem lexC_self (a : List Int) : lexC a a = 0 := by have := lexC_flip a a; omega
theorem lexC_eq : ∀ a b : List Int, a.length = b.length → lexC a b = 0 → a = b
  | [], [], _, _ => rfl
  | [], _ :: _, h, _ => by simp at h
  | _ :: _, [], h, _ => by simp at h
  | x :: xs, y :: ys, h, h0 => by
    unfold lexC at h0
    by_cases h1 : x < y
    · rw [if_pos h1] at h0; omega
    · by_cases h2 : y < x
      · rw [if_neg h1, if_pos h2] at h0; omega
      · rw [if_neg h1, if_neg h2] at h0
        rw [lexC_eq xs ys (by simpa using h) h0, show x = y by omega]
theorem lexC_trans : ∀ a b c : List Int, a.length = b.length → b.length = c.length → lexC a b ≤ 0 → lexC b c ≤ 0 → lexC a c ≤ 0
  | [], [], [], _, _, _, _ => by simp [lexC]
  | [], [], _ :: _, _, h, _, _ => by simp at h
  | [], _ :: _, _, h, _, _, _ => by simp at h
  | _ :: _, [], _, h, _, _, _ => by simp at h
  | _ :: _, _ :: _, [], _, h, _, _ => by simp at h
  | x :: xs, y :: ys, z :: zs, h, h', h1, h2 => by
    have ih := lexC_trans xs ys zs (by simpa using h) (by simpa using h')
    unfold lexC at h1 h2 ⊢
    by_cases a1 : x < z
    · rw [if_pos a1]; omega
    · by_cases a2 : x < y
      · by_cases a3 : y < z
        · omega
        · rw [if_neg a3, if_pos (by omega)] at h2; omega
      · by_cases a3 : y < x
        · rw [if_neg a2, if_pos a3] at h1; omega
        · rw [if_neg a2, if_neg a3] at h1
          by_cases a4 : y < z
          · omega
          · by_cases a5 : z < y
            · rw [if_neg a4, if_pos a5] at h2; omega
            · rw [if_neg a4, if_neg a5] at h2
              rw [if_neg a1, if_neg (by omega)]
              exact ih h1 h2
def dirL (l : List Int) : List Int := l.map (·.tdiv (div1 (gcdL l)))
theorem dirL_len (l : List Int) : (dirL l).length = l.length := by simp [dirL]
theorem cmpDir_lex (g h : Int) : ∀ l m : List Int, cmpDir g h l m = lexC (l.map (·.tdiv g)) (m.map (·.tdiv h))
  | [], [] => rfl
  | [], _ :: _ => rfl
  | _ :: _, [] => rfl
  | x :: xs, y :: ys => by simp only [cmpDir, List.map_cons, lexC, cmpDir_lex g h xs ys]
theorem way_lex (l m : List Int) : wayAt l m = lexC (dirL l) (dirL m) := cmpDir_lex _ _ l m
theorem way_flip (l m : List Int) : wayAt m l = - wayAt l m := by rw [way_lex, way_lex, lexC_flip]
theorem way_self (l : List Int) : wayAt l l = 0 := by rw [way_lex, lexC_self]
theorem way_dir {l m : List Int} (h : l.length = m.length) (h0 : wayAt l m = 0) : dirL l = dirL m := by
  rw [way_lex] at h0
  exact lexC_eq _ _ (by rw [dirL_len, dirL_len, h]) h0
theorem way_left {l m n : List Int} (h : l.length = m.length) (h0 : wayAt l m = 0) : wayAt l n = wayAt m n := by rw [way_lex, way_lex m, way_dir h h0]
theorem way_right {l m n : List Int} (h : m.length = n.length) (h0 : wayAt m n = 0) : wayAt l m = wayAt l n := by rw [way_lex, way_lex l n, way_dir h h0]
theorem way_le {l m n : List Int} (h : l.length = m.length) (h' : m.length = n.length) (h1 : wayAt l m ≤ 0) (h2 : wayAt m n ≤ 0) : wayAt l n ≤ 0 := by
  rw [way_lex] at *
  exact lexC_trans _ _ _ (by rw [dirL_len, dirL_len, h]) (by rw [dirL_len, dirL_len, h']) h1 h2
theorem way_lt {l m n : List Int} (h : l.length = m.length) (h' : m.length = n.length) (h1 : wayAt l m < 0) (h2 : wayAt m n ≤ 0) : wayAt l n < 0 := by
  have h3 := way_le h h' (by omega) h2
  by_cases h4 : wayAt l n = 0
  · have h5 := way_right (l := m) (h.trans h').symm (by rw [way_flip, h4]; rfl : wayAt n l = 0)
    have h6 := way_flip l m
    omega
  · omega
theorem sgn_flip (a b : Int) : sgn b a = - sgn a b := by
  unfold sgn
  by_cases h : a < b
  · rw [if_neg (by omega), if_pos h, if_pos h]; rfl
  · by_cases h' : b < a
    · rw [if_pos h', if_neg h, if_pos h']
    · rw [if_neg h', if_neg h, if_neg h, if_neg h']; rfl
def stA (a b : At) : Int := strengthAt a.1 a.2.1 a.2.2 b.1 b.2.1 b.2.2
theorem stA_iff (a b : At) : stA a b ≤ 0 ↔ a.2.1 * div1 (gcdL b.1) < b.2.1 * div1 (gcdL a.1) ∨ a.2.1 * div1 (gcdL b.1) = b.2.1 * div1 (gcdL a.1) ∧ (a.2.2 = true → b.2.2 = true) := by
  unfold stA strengthAt sgn
  by_cases h : a.2.1 * div1 (gcdL b.1) < b.2.1 * div1 (gcdL a.1)
  · simp [h]
  · by_cases h' : b.2.1 * div1 (gcdL a.1) < a.2.1 * div1 (gcdL b.1)
    · simp [h, h']; omega
    · have e : a.2.1 * div1 (gcdL b.1) = b.2.1 * div1 (gcdL a.1) := by omega
      simp only [if_false, ne_eq, not_true_eq_false, e, true_and, false_or, Int.lt_irrefl]
      cases a.2.2 <;> cases b.2.2 <;> simp
theorem stA_flip (a b : At) : stA b a = - stA a b := by
  unfold stA strengthAt
  rw [sgn_flip (a.2.1 * div1 (gcdL b.1))]
  by_cases h : sgn (a.2.1 * div1 (gcdL b.1)) (b.2.1 * div1 (gcdL a.1)) = 0
  · rw [h]
    simp only [Int.neg_zero, ne_eq, not_true_eq_false, if_false]
    cases a.2.2 <;> cases b.2.2 <;> simp
  · rw [if_pos (by omega), if_pos h]
theorem stA_self (a : At) : stA a a = 0 := by have := stA_flip a a; omega
theorem stA_trans (a b c : At) (h1 : stA a b ≤ 0) (h2 : stA b c ≤ 0) : stA a c ≤ 0 := by
  rw [stA_iff] at *
  have ga := div1_pos (gcdL a.1)
  have gb := div1_pos (gcdL b.1)
  have gc := div1_pos (gcdL c.1)
  generalize div1 (gcdL a.1) = x at *
  generalize div1 (gcdL b.1) = y at *
  generalize div1 (gcdL c.1) = z at *
  have e1 : a.2.1 * z * y = a.2.1 * y * z := Int.mul_right_comm ..
  have e2 : c.2.1 * x * y = c.2.1 * y * x := Int.mul_right_comm ..
  have e3 : b.2.1 * x * z = b.2.1 * z * x := Int.mul_right_comm ..
  rcases h1 with h1 | ⟨h1, s1⟩
  · left
    have k1 := Int.mul_lt_mul_of_pos_right h1 gc
    have k2 : b.2.1 * z * x ≤ c.2.1 * y * x := by
      rcases h2 with h2 | ⟨h2, _⟩
      · exact Int.le_of_lt (Int.mul_lt_mul_of_pos_right h2 ga)
      · rw [h2]; exact Int.le_refl _
    exact Int.lt_of_mul_lt_mul_right (by omega : a.2.1 * z * y < c.2.1 * x * y) (Int.le_of_lt gb)
  · have k1 : a.2.1 * y * z = b.2.1 * x * z := by rw [h1]
    rcases h2 with h2 | ⟨h2, s2⟩
    · left
      have k2 := Int.mul_lt_mul_of_pos_right h2 ga
      exact Int.lt_of_mul_lt_mul_right (by omega : a.2.1 * z * y < c.2.1 * x * y) (Int.le_of_lt gb)
    · right
      have k2 : b.2.1 * z * x = c.2.1 * y * x := by rw [h2]
      exact ⟨Int.eq_of_mul_eq_mul_right (Int.ne_of_gt gb) (by omega : a.2.1 * z * y = c.2.1 * x * y), fun h => s2 (s1 h)⟩
def cmpK (a b : At) : Int := if wayAt a.1 b.1 ≠ 0 then wayAt a.1 b.1 else stA a b
theorem cmpK_flip (a b : At) : cmpK b a = - cmpK a b := by
  unfold cmpK
  rw [way_flip a.1 b.1, stA_flip a b]
  by_cases h : wayAt a.1 b.1 = 0
  · rw [if_neg (by omega), if_neg (by omega)]
  · rw [if_pos (by omega), if_pos h]
theorem cmpK_way {a b : At} (h : cmpK a b ≤ 0) : wayAt a.1 b.1 ≤ 0 := by
  unfold cmpK at h
  by_cases h0 : wayAt a.1 b.1 = 0
  · omega
  · rw [if_pos h0] at h; exact h
theorem cmpK_st {a b : At} (h : cmpK a b ≤ 0) (h0 : wayAt a.1 b.1 = 0) : stA a b ≤ 0 := by
  unfold cmpK at h
  rwa [if_neg (by omega)] at h
theorem cmpK_trans {a b c : At} (h : a.1.length = b.1.length) (h' : b.1.length = c.1.length) (h1 : cmpK a b ≤ 0) (h2 : cmpK b c ≤ 0) : cmpK a c ≤ 0 := by
  have w1 := cmpK_way h1
  have w2 := cmpK_way h2
  have w3 := way_le h h' w1 w2
  unfold cmpK
  by_cases h0 : wayAt a.1 c.1 = 0
  · rw [if_neg (by omega)]
    have e1 : wayAt a.1 b.1 = 0 := by
      by_cases hh : wayAt a.1 b.1 = 0
      · exact hh
      · have := way_lt h h' (by omega) w2; omega
    have e2 : wayAt b.1 c.1 = 0 := by rw [← way_left h e1]; exact h0
    exact stA_trans _ _ _ (cmpK_st h1 e1) (cmpK_st h2 e2)
  · rw [if_pos h0]; exact w3
theorem gcd_dvd_all (l : List Int) : ∀ x ∈ l, ((gcdL l : Nat) : Int) ∣ x := by
  induction l with
  | nil => intro x hx; cases hx
  | cons y l ih =>
    intro x hx
    rw [gcdL_cons]
    rcases List.mem_cons.1 hx with rfl | hx
    · exact Int.ofNat_dvd_left.2 (Nat.gcd_dvd_left _ _)
    · exact Int.dvd_trans (Int.natCast_dvd_natCast.2 (Nat.gcd_dvd_right _ _)) (ih x hx)
theorem dir_back (l : List Int) (h : gcdL l ≠ 0) : (dirL l).map (· * ((gcdL l : Nat) : Int)) = l := by
  have e : div1 (gcdL l) = ((gcdL l : Nat) : Int) := by unfold div1; rw [if_neg h]
  unfold dirL
  rw [e, List.map_map]
  conv => rhs; rw [← List.map_id l]
  exact List.map_congr_left (fun x hx => Int.tdiv_mul_cancel (gcd_dvd_all l x hx))
theorem cmpK_eq {a b : At} (ha : isAt a.1 a.2.1 = true) (hb : isAt b.1 b.2.1 = true) (h : a.1.length = b.1.length) (na : gcdL a.1 ≠ 0) (nb : gcdL b.1 ≠ 0) (h0 : cmpK a b = 0) : a = b := by
  have hw : wayAt a.1 b.1 = 0 := by
    unfold cmpK at h0
    by_cases hh : wayAt a.1 b.1 = 0
    · exact hh
    · rw [if_pos hh] at h0; exact absurd h0 hh
  have s1 : stA a b ≤ 0 := cmpK_st (by omega) hw
  have s2 : stA b a ≤ 0 := cmpK_st (by rw [cmpK_flip]; omega) (by rw [way_flip]; omega)
  rw [stA_iff] at s1 s2
  have ea : div1 (gcdL a.1) = ((gcdL a.1 : Nat) : Int) := by unfold div1; rw [if_neg na]
  have eb : div1 (gcdL b.1) = ((gcdL b.1 : Nat) : Int) := by unfold div1; rw [if_neg nb]
  rw [ea, eb] at s1 s2
  have hc : a.2.1 * ((gcdL b.1 : Nat) : Int) = b.2.1 * ((gcdL a.1 : Nat) : Int) := by omega
  have hs : a.2.2 = b.2.2 := by
    have k1 : a.2.2 = true → b.2.2 = true := by rcases s1 with s | s; · omega
                                                · exact s.2
    have k2 : b.2.2 = true → a.2.2 = true := by rcases s2 with s | s; · omega
                                                · exact s.2
    cases hx : a.2.2 <;> cases hy : b.2.2 <;> simp_all
  have ga := (isAt_iff.1 ha).2.2.2
  have gb := (isAt_iff.1 hb).2.2.2
  have ca : Nat.Coprime (gcdL a.1) a.2.1.natAbs := by
    have : 0 < Nat.gcd (gcdL a.1) a.2.1.natAbs := Nat.gcd_pos_of_pos_left _ (by omega)
    unfold Nat.Coprime; omega
  have cb : Nat.Coprime (gcdL b.1) b.2.1.natAbs := by
    have : 0 < Nat.gcd (gcdL b.1) b.2.1.natAbs := Nat.gcd_pos_of_pos_left _ (by omega)
    unfold Nat.Coprime; omega
  have hn : a.2.1.natAbs * gcdL b.1 = b.2.1.natAbs * gcdL a.1 := by
    have := congrArg Int.natAbs hc
    rwa [Int.natAbs_mul, Int.natAbs_mul, Int.natAbs_natCast, Int.natAbs_natCast] at this
  have d1 : gcdL a.1 ∣ gcdL b.1 := ca.dvd_of_dvd_mul_left (by rw [hn]; exact Nat.dvd_mul_left _ _)
  have d2 : gcdL b.1 ∣ gcdL a.1 := cb.dvd_of_dvd_mul_left (by rw [← hn]; exact Nat.dvd_mul_left _ _)
  have eg : gcdL a.1 = gcdL b.1 := Nat.dvd_antisymm d1 d2
  have ec : a.2.1 = b.2.1 := by
    rw [eg] at hc
    exact Int.eq_of_mul_eq_mul_right (by omega) hc
  have el : a.1 = b.1 := by
    rw [← dir_back a.1 na, ← dir_back b.1 nb, way_dir h hw, eg]
  exact Prod.ext el (Prod.ext ec hs)
def putN (a : At) : List At → List At
  | [] => [a]
  | b :: l => if wayAt b.1 a.1 < 0 then b :: putN a l else if wayAt b.1 a.1 = 0 then (if 0 ≤ stA b a then b :: l else a :: l) else a :: b :: l
def nfL (l : List At) : List At := l.foldl (fun acc a => putN a acc) []
def ddN : List At → List At
  | a :: b :: l => if wayAt a.1 b.1 = 0 then ddN (b :: l) else a :: ddN (b :: l)
  | l => l
structure Norm (P : At → Prop) (R : List At) : Prop where
  sub : ∀ r ∈ R, P r
  ord : R.Pairwise (fun a b => wayAt a.1 b.1 < 0)
  best : ∀ a, P a → ∃ r ∈ R, wayAt r.1 a.1 = 0 ∧ 0 ≤ stA r a
theorem putN_mem (a : At) : ∀ R x, x ∈ putN a R → x = a ∨ x ∈ R
  | [], x, h => by simp [putN] at h; exact .inl h
  | b :: l, x, h => by
    unfold putN at h
    split at h
    · rcases List.mem_cons.1 h with rfl | h
      · simp
      · rcases putN_mem a l x h with h | h
        · exact .inl h
        · simp [h]
    · split at h
      · split at h
        · exact .inr h
        · rcases List.mem_cons.1 h with h | h
          · exact .inl h
          · simp [h]
      · rcases List.mem_cons.1 h with h | h
        · exact .inl h
        · exact .inr h
theorem putN_ord (d : Nat) (a : At) (ha : a.1.length = d) : ∀ R : List At, (∀ x ∈ R, x.1.length = d) → R.Pairwise (fun a b => wayAt a.1 b.1 < 0) → (putN a R).Pairwise (fun a b => wayAt a.1 b.1 < 0)
  | [], _, _ => by simp [putN]
  | b :: l, hl, h => by
    obtain ⟨h1, h2⟩ := List.pairwise_cons.1 h
    have hb := hl b (by simp)
    have hl' : ∀ x ∈ l, x.1.length = d := fun x hx => hl x (by simp [hx])
    unfold putN
    split
    · rename_i hw
      refine List.pairwise_cons.2 ⟨fun x hx => ?_, putN_ord d a ha l hl' h2⟩
      rcases putN_mem a l x hx with rfl | hx
      · exact hw
      · exact h1 x hx
    · rename_i hw
      split
      · rename_i h0
        split
        · exact h
        · refine List.pairwise_cons.2 ⟨fun x hx => ?_, h2⟩
          rw [← way_left (hb.trans ha.symm) h0]; exact h1 x hx
      · rename_i h0
        have hab : wayAt a.1 b.1 < 0 := by rw [way_flip]; omega
        refine List.pairwise_cons.2 ⟨fun x hx => ?_, h⟩
        rcases List.mem_cons.1 hx with rfl | hx
        · exact hab
        · exact way_lt (ha.trans hb.symm) (hb.trans (hl' x hx).symm) hab (by have := h1 x hx; omega)
theorem putN_new (a : At) : ∀ R : List At, ∃ r ∈ putN a R, wayAt r.1 a.1 = 0 ∧ 0 ≤ stA r a
  | [] => ⟨a, by simp [putN], way_self _, by rw [stA_self]; omega⟩
  | b :: l => by
    unfold putN
    split
    · obtain ⟨r, h, k⟩ := putN_new a l
      exact ⟨r, by simp [h], k⟩
    · split
      · rename_i h0
        split
        · rename_i h1; exact ⟨b, by simp, h0, h1⟩
        · exact ⟨a, by simp, way_self _, by rw [stA_self]; omega⟩
      · exact ⟨a, by simp, way_self _, by rw [stA_self]; omega⟩
theorem putN_old (a : At) : ∀ R : List At, ∀ x ∈ R, ∃ r ∈ putN a R, wayAt r.1 x.1 = 0 ∧ 0 ≤ stA r x
  | [], x, h => by cases h
  | b :: l, x, h => by
    have hs : 0 ≤ stA x x := by rw [stA_self]; omega
    unfold putN
    split
    · rcases List.mem_cons.1 h with rfl | h
      · exact ⟨x, by simp, way_self _, hs⟩
      · obtain ⟨r, h, k⟩ := putN_old a l x h
        exact ⟨r, by simp [h], k⟩
    · split
      · rename_i h0
        split
        · exact ⟨x, h, way_self _, hs⟩
        · rename_i h1
          rcases List.mem_cons.1 h with rfl | h
          · exact ⟨a, by simp, by rw [way_flip, h0]; rfl, by rw [stA_flip]; omega⟩
          · exact ⟨x, by simp [h], way_self _, hs⟩
      · exact ⟨x, by simp [h], way_self _, hs⟩
theorem putN_norm (d : Nat) {P : At → Prop} (hP : ∀ x, P x → x.1.length = d) (a : At) (ha : a.1.length = d) {R : List At} (h : Norm P R) : Norm (fun x => x = a ∨ P x) (putN a R) where
  sub r hr := (putN_mem a R r hr).elim .inl (fun h' => .inr (h.sub r h'))
  ord := putN_ord d a ha R (fun x hx => hP x (h.sub x hx)) h.ord
  best x hx := by
    rcases hx with rfl | hx
    · exact putN_new x R
    · obtain ⟨r, hr, k1, k2⟩ := h.best x hx
      obtain ⟨q, hq, k3, k4⟩ := putN_old a R r hr
      have lr := hP r (h.sub r hr)
      have lq : q.1.length = d := (putN_mem a R q hq).elim (fun e => by rw [e]; exact ha) (fun h' => hP q (h.sub q h'))
      refine ⟨q, hq, by rw [way_left (lq.trans lr.symm) k3]; exact k1, ?_⟩
      have := stA_trans x r q (by rw [stA_flip]; omega) (by rw [stA_flip]; omega)
      rw [stA_flip]; omega
theorem nfL_norm (d : Nat) (L : List At) (hL : ∀ x ∈ L, x.1.length = d) : Norm (· ∈ L) (nfL L) := by
  have key : ∀ (M : List At) (P : At → Prop) (R : List At), (∀ x ∈ M, x.1.length = d) → (∀ x, P x → x.1.length = d) → Norm P R → Norm (fun x => P x ∨ x ∈ M) (M.foldl (fun acc a => putN a acc) R) := by
    intro M
    induction M with
    | nil => intro P R _ _ h; exact ⟨fun r hr => .inl (h.sub r hr), h.ord, fun a ha => h.best a (ha.elim id (fun h' => by cases h'))⟩
    | cons a M ih =>
      intro P R hM hP h
      have k := ih (fun x => x = a ∨ P x) (putN a R) (fun x hx => hM x (by simp [hx])) (fun x hx => hx.elim (fun e => by rw [e]; exact hM a (by simp)) (hP x)) (putN_norm d hP a (hM a (by simp)) h)
      refine ⟨fun r hr => ?_, k.ord, fun x hx => k.best x ?_⟩
      · rcases k.sub r hr with (rfl | h') | h'
        · exact .inr (by simp)
        · exact .inl h'
        · exact .inr (by simp [h'])
      · rcases hx with h' | h'
        · exact .inl (.inr h')
        · rcases List.mem_cons.1 h' with h' | h'
          · exact .inl (.inl h')
          · exact .inr h'
  have := key L (fun _ => False) [] hL (fun _ h => h.elim) ⟨fun r hr => (by cases hr), List.Pairwise.nil, fun _ h => h.elim⟩
  exact ⟨fun r hr => (this.sub r hr).elim (fun h => h.elim) id, this.ord, fun a ha => this.best a (.inr ha)⟩
theorem ddN_mem : ∀ S x, x ∈ ddN S → x ∈ S
  | [], x, h => by simp [ddN] at h
  | [a], x, h => by simpa [ddN] using h
  | a :: b :: l, x, h => by
    unfold ddN at h
    split at h
    · exact List.mem_cons_of_mem _ (ddN_mem (b :: l) x h)
    · rcases List.mem_cons.1 h with rfl | h
      · simp
      · exact List.mem_cons_of_mem _ (ddN_mem (b :: l) x h)
theorem ddN_ord (d : Nat) : ∀ S : List At, (∀ x ∈ S, x.1.length = d) → S.Pairwise (fun a b => cmpK a b ≤ 0) → (ddN S).Pairwise (fun a b => wayAt a.1 b.1 < 0)
  | [], _, _ => by simp [ddN]
  | [a], _, _ => by simp [ddN]
  | a :: b :: l, hl, h => by
    obtain ⟨h1, h2⟩ := List.pairwise_cons.1 h
    have ih := ddN_ord d (b :: l) (fun x hx => hl x (by simp at hx; simp [hx])) h2
    unfold ddN
    split
    · exact ih
    · rename_i h0
      refine List.pairwise_cons.2 ⟨fun x hx => ?_, ih⟩
      have hx' := ddN_mem _ _ hx
      have la := hl a (by simp)
      have lb := hl b (by simp)
      have lx := hl x (by simp at hx'; simp [hx'])
      have hab : wayAt a.1 b.1 < 0 := by have := cmpK_way (h1 b (by simp)); omega
      refine way_lt (la.trans lb.symm) (lb.trans lx.symm) hab ?_
      rcases List.mem_cons.1 hx' with rfl | hx'
      · rw [way_self]; omega
      · exact cmpK_way ((List.pairwise_cons.1 h2).1 x hx')
theorem ddN_best (d : Nat) : ∀ S : List At, (∀ x ∈ S, x.1.length = d) → S.Pairwise (fun a b => cmpK a b ≤ 0) → ∀ x ∈ S, ∃ r ∈ ddN S, wayAt r.1 x.1 = 0 ∧ 0 ≤ stA r x
  | [], _, _, x, h => by cases h
  | [a], _, _, x, h => by
    obtain rfl : x = a := by simpa using h
    exact ⟨x, by simp [ddN], way_self _, by rw [stA_self]; omega⟩
  | a :: b :: l, hl, h, x, hx => by
    obtain ⟨h1, h2⟩ := List.pairwise_cons.1 h
    have ih := ddN_best d (b :: l) (fun x hx => hl x (by simp at hx; simp [hx])) h2
    unfold ddN
    split
    · rename_i h0
      rcases List.mem_cons.1 hx with rfl | hx
      · obtain ⟨r, hr, k1, k2⟩ := ih b (by simp)
        have hab := cmpK_st (h1 b (by simp)) h0
        refine ⟨r, hr, ?_, ?_⟩
        · have lx := hl x (by simp)
          have lb := hl b (by simp)
          rw [way_right (lx.trans lb.symm) h0]; exact k1
        · have := stA_trans x b r hab (by rw [stA_flip]; omega)
          rw [stA_flip]; omega
      · exact ih x hx
    · rcases List.mem_cons.1 hx with rfl | hx
      · exact ⟨x, by simp, way_self _, by rw [stA_self]; omega⟩
      · obtain ⟨r, hr, k⟩ := ih x hx
        exact ⟨r, by simp [hr], k⟩
theorem ord_unique : ∀ R R' : List At, R.Pairwise (fun a b => wayAt a.1 b.1 < 0) → R'.Pairwise (fun a b => wayAt a.1 b.1 < 0) → (∀ x, x ∈ R ↔ x ∈ R') → R = R'
  | [], [], _, _, _ => rfl
  | [], y :: ys, _, _, h => by have := (h y).2 (by simp); cases this
  | x :: xs, [], _, _, h => by have := (h x).1 (by simp); cases this
  | x :: xs, y :: ys, h1, h2, h => by
    obtain ⟨a1, a2⟩ := List.pairwise_cons.1 h1
    obtain ⟨b1, b2⟩ := List.pairwise_cons.1 h2
    have e : x = y := by
      rcases List.mem_cons.1 ((h x).1 (by simp)) with e | e
      · exact e
      · rcases List.mem_cons.1 ((h y).2 (by simp)) with e' | e'
        · exact e'.symm
        · have k1 := b1 x e
          have k2 := a1 y e'
          rw [way_flip] at k1; omega
    subst e
    have no : ∀ z, wayAt x.1 z.1 < 0 → z ≠ x := fun z hz e => by rw [e, way_self] at hz; omega
    rw [ord_unique xs ys a2 b2 (fun z => ⟨fun hz => ?_, fun hz => ?_⟩)]
    · rcases List.mem_cons.1 ((h z).1 (by simp [hz])) with e | e
      · exact absurd e (no z (a1 z hz))
      · exact e
    · rcases List.mem_cons.1 ((h z).2 (by simp [hz])) with e | e
      · exact absurd e (no z (b1 z hz))
      · exact e
def okN (d : Nat) (a : At) : Prop := isAt a.1 a.2.1 = true ∧ a.1.length = d ∧ gcdL a.1 ≠ 0
theorem norm_unique (d : Nat) {P : At → Prop} (hP : ∀ x, P x → okN d x) {R R' : List At} (h : Norm P R) (h' : Norm P R') : R = R' := by
  have key : ∀ {R R' : List At}, Norm P R → Norm P R' → ∀ r ∈ R, r ∈ R' := by
    intro R R' h h' r hr
    obtain ⟨q, hq, k1, k2⟩ := h'.best r (h.sub r hr)
    obtain ⟨p, hp, k3, k4⟩ := h.best q (h'.sub q hq)
    have or_ := hP r (h.sub r hr)
    have oq := hP q (h'.sub q hq)
    have op := hP p (h.sub p hp)
    have e : p = r := by
      by_cases e : p = r
      · exact e
      · exfalso
        have hw : wayAt p.1 r.1 = 0 := by rw [way_left (op.2.1.trans oq.2.1.symm) k3]; exact k1
        have sep : ∀ (S : List At), S.Pairwise (fun a b => wayAt a.1 b.1 < 0) → ∀ a ∈ S, ∀ b ∈ S, a ≠ b → wayAt a.1 b.1 ≠ 0 := by
          intro S
          induction S with
          | nil => intro _ a ha; cases ha
          | cons c S ih =>
            intro hS a ha b hb hab
            obtain ⟨c1, c2⟩ := List.pairwise_cons.1 hS
            rcases List.mem_cons.1 ha with ea | ha'
            · rcases List.mem_cons.1 hb with eb | hb'
              · exact absurd (ea.trans eb.symm) hab
              · have := c1 b hb'; rw [ea]; omega
            · rcases List.mem_cons.1 hb with eb | hb'
              · have := c1 a ha'; rw [eb, way_flip]; omega
              · exact ih c2 a ha' b hb' hab
        exact sep R h.ord p hp r hr e hw
    subst e
    have e2 : p = q := cmpK_eq or_.1 oq.1 (or_.2.1.trans oq.2.1.symm) or_.2.2 oq.2.2 (by
      unfold cmpK
      rw [if_neg (by rw [k3]; simp)]
      rw [stA_flip] at k2
      omega)
    rw [e2]; exact hq
  exact ord_unique R R' h.ord h'.ord (fun x => ⟨key h h' x, key h' h x⟩)
theorem dd_nf (d : Nat) (L S : List At) (hL : ∀ x ∈ L, okN d x) (hp : S.Perm L) (hs : S.Pairwise (fun a b => cmpK a b ≤ 0)) : ddN S = nfL L := by
  have hS : ∀ x ∈ S, x.1.length = d := fun x hx => (hL x (hp.mem_iff.1 hx)).2.1
  refine norm_unique d (P := (· ∈ L)) (fun x hx => hL x hx) ⟨fun r hr => hp.mem_iff.1 (ddN_mem S r hr), ddN_ord d S hS hs, fun a ha => ddN_best d S hS hs a (hp.mem_iff.2 ha)⟩ (nfL_norm d L (fun x hx => (hL x hx).2.1))
theorem isNum_bd {x : Int} (h : isNum x = true) : -9223372036854775807 ≤ x ∧ x ≤ 9223372036854775807 := by rw [isNum_iff] at h; omega
def badA (a : At) : Bool := decide (gcdL a.1 = 0) && (decide (0 < a.2.1) || decide (a.2.1 = 0) && a.2.2)
def hasV (a : At) : Bool := !decide (gcdL a.1 = 0)
def noneA (d : Int) : At := (List.replicate d.toNat 0, 1, false)
def nrm (d : Int) (L : List At) : List At := if L.any badA then [noneA d] else nfL (L.filter hasV)
def okA (d : Int) (a : At) : Prop := isAt a.1 a.2.1 = true ∧ (a.1.length : Int) = d
theorem okA_num {d : Int} {a : At} (h : okA d a) : (∀ x ∈ a.1, isNum x = true) ∧ isNum a.2.1 = true ∧ a.1.length ≤ 4 := by
  obtain ⟨h1, h2, h3, _⟩ := isAt_iff.1 h.1
  exact ⟨h3, h2, h1⟩
theorem okA_bd {d : Int} {a : At} (h : okA d a) : ∀ x ∈ a.1, -9223372036854775807 ≤ x ∧ x ≤ 9223372036854775807 := fun x hx => isNum_bd ((okA_num h).1 x hx)
theorem noneA_ok {d : Int} (h : 0 ≤ d ∧ d ≤ 4) : okA d (noneA d) := by
  refine ⟨isAt_iff.2 ⟨by simp [noneA]; omega, by simp [noneA]; decide, fun x hx => ?_, ?_⟩, by simp [noneA]; omega⟩
  · rw [(List.mem_replicate.1 hx).2]; decide
  · simp [noneA]
theorem putN_len (a : At) : ∀ R, (putN a R).length ≤ R.length + 1
  | [] => by simp [putN]
  | b :: l => by
    have := putN_len a l
    unfold putN
    split
    · simp; omega
    · split
      · split <;> simp
      · simp
theorem nfF_len : ∀ (L acc : List At), (L.foldl (fun acc a => putN a acc) acc).length ≤ acc.length + L.length
  | [], acc => by simp
  | a :: L, acc => by
    have h1 := nfF_len L (putN a acc)
    have h2 := putN_len a acc
    simp only [List.foldl_cons, List.length_cons]
    omega
theorem nfF_ok (d : Int) : ∀ (L acc : List At), (∀ a ∈ L, okA d a) → (∀ a ∈ acc, okA d a) → ∀ a ∈ L.foldl (fun acc a => putN a acc) acc, okA d a
  | [], acc, _, h => h
  | a :: L, acc, h, h' => nfF_ok d L (putN a acc) (fun x hx => h x (by simp [hx])) (fun x hx => by
    rcases putN_mem a acc x hx with rfl | hx
    · exact h x (by simp)
    · exact h' x hx)
theorem nrm_len (d : Int) (L : List At) : (nrm d L).length ≤ L.length + 1 := by
  unfold nrm
  split
  · simp
  · have := nfF_len (L.filter hasV) []
    have h2 := List.length_filter_le hasV L
    unfold nfL
    simp at this
    omega
theorem nrm_16 (d : Int) (L : List At) (h : L.length ≤ 16) : (nrm d L).length ≤ 16 := by
  unfold nrm
  split
  · simp
  · have := nfF_len (L.filter hasV) []
    have h2 := List.length_filter_le hasV L
    unfold nfL
    simp at this
    omega
theorem nrm_ok {d : Int} (hd : 0 ≤ d ∧ d ≤ 4) {L : List At} (h : ∀ a ∈ L, okA d a) : ∀ a ∈ nrm d L, okA d a := by
  unfold nrm
  split
  · intro a ha
    obtain rfl : a = noneA d := by simpa using ha
    exact noneA_ok hd
  · exact nfF_ok d _ _ (fun a ha => h a (List.mem_filter.1 ha).1) (fun a ha => by cases ha)
theorem stronger_iff (a b : At) : (decide (a.2.1 * div1 (gcdL b.1) < b.2.1 * div1 (gcdL a.1)) || decide (b.2.1 * div1 (gcdL a.1) = a.2.1 * div1 (gcdL b.1)) && (b.2.2 || !a.2.2)) = decide (0 ≤ stA b a) := by
  have h := stA_iff a b
  have hf := stA_flip a b
  rw [Bool.eq_iff_iff]
  simp only [Bool.or_eq_true, Bool.and_eq_true, decide_eq_true_eq, Bool.not_eq_true']
  have e : 0 ≤ stA b a ↔ stA a b ≤ 0 := by omega
  rw [e, h]
  constructor
  · rintro (h1 | ⟨h1, h2⟩)
    · exact .inl h1
    · exact .inr ⟨h1.symm, fun h3 => h2.resolve_right (by rw [h3]; simp)⟩
  · rintro (h1 | ⟨h1, h2⟩)
    · exact .inl h1
    · refine .inr ⟨h1.symm, ?_⟩
      cases hs : a.2.2
      · exact .inr rfl
      · exact .inl (h2 hs)
theorem cmpAt_K {d : Int} {a b : At} (ha : okA d a) (hb : okA d b) : cmpAt a.1 a.2.1 a.2.2 b.1 b.2.1 b.2.2 = cmpK a b := by
  have hl : a.1.length = b.1.length := by have h1 := ha.2; have h2 := hb.2; omega
  unfold cmpAt cmpK stA
  rw [if_pos (by simp [ha.1, hb.1, hl])]
def mixGo (v : Nat) (a : At) : List At → List At → Option (List At)
  | [], acc => some acc
  | b :: bs, acc => if 0 ≤ b.1.getD v 0 then mixGo v a bs acc else
      if (mixAt a.1 a.2.1 a.2.2 (-(b.1.getD v 0)) b.1 b.2.1 b.2.2 (a.1.getD v 0)).2.2.2 = true then
        mixGo v a bs (acc ++ [((mixAt a.1 a.2.1 a.2.2 (-(b.1.getD v 0)) b.1 b.2.1 b.2.2 (a.1.getD v 0)).1, (mixAt a.1 a.2.1 a.2.2 (-(b.1.getD v 0)) b.1 b.2.1 b.2.2 (a.1.getD v 0)).2.1, (mixAt a.1 a.2.1 a.2.2 (-(b.1.getD v 0)) b.1 b.2.1 b.2.2 (a.1.getD v 0)).2.2.1)])
      else none
def dropGo (v : Nat) (L : List At) : List At → List At → Option (List At)
  | [], acc => some acc
  | a :: tl_, acc => if a.1.getD v 0 ≤ 0 then dropGo v L tl_ acc else (mixGo v a L acc).bind (dropGo v L tl_)
def free (v : Nat) (a : At) : Bool := decide (a.1.getD v 0 = 0)
def limN (d : Int) (M : List At) : Int × List At × Bool := if 16 < (nrm d M).length then (0, [], false) else (d, nrm d M, true)
def dropC (d : Int) (v : Nat) (L : List At) : Int × List At × Bool := match dropGo v L L (L.filter (free v)) with
  | none => (0, [], false)
  | some M => limN d M
theorem mkAt_ok {l : List Int} {c : Int} {s : Bool} (h : (mkAt l c s).2.2.2 = true) : isAt (mkAt l c s).1 (mkAt l c s).2.1 = true ∧ (mkAt l c s).1.length = l.length := by
  unfold mkAt at h ⊢
  simp only [] at h ⊢
  split
  · rename_i hi; exact ⟨hi, by simp⟩
  · rename_i hi; rw [if_neg hi] at h; exact absurd h (by simp [noAt])
theorem mixAt_ok {d : Int} {a b : At} {p q : Int} (ha : okA d a) (hb : okA d b) (h : (mixAt a.1 a.2.1 a.2.2 p b.1 b.2.1 b.2.2 q).2.2.2 = true) : okA d ((mixAt a.1 a.2.1 a.2.2 p b.1 b.2.1 b.2.2 q).1, (mixAt a.1 a.2.1 a.2.2 p b.1 b.2.1 b.2.2 q).2.1, (mixAt a.1 a.2.1 a.2.2 p b.1 b.2.1 b.2.2 q).2.2.1) := by
  unfold mixAt at h ⊢
  split
  · rename_i hi
    rw [if_pos hi] at h
    obtain ⟨h1, h2⟩ := mkAt_ok h
    refine ⟨h1, ?_⟩
    have hl : (mixL p a.1 q b.1).length = a.1.length := by
      have h3 := ha.2; have h4 := hb.2
      unfold mixL
      rw [List.length_zipWith]; omega
    show ((mkAt _ _ _).1.length : Int) = d
    rw [h2, hl]; exact ha.2
  · rename_i hi
    rw [if_neg hi] at h; exact absurd h (by simp [noAt])
theorem mixGo_ok {d : Int} (v : Nat) {a : At} (ha : okA d a) : ∀ (bs acc M : List At), (∀ b ∈ bs, okA d b) → (∀ b ∈ acc, okA d b) → mixGo v a bs acc = some M → (∀ b ∈ M, okA d b) ∧ M.length ≤ acc.length + bs.length
  | [], acc, M, _, h, e => by
    obtain rfl := Option.some.inj e
    exact ⟨h, by simp⟩
  | b :: bs, acc, M, hb, h, e => by
    unfold mixGo at e
    have hb' : ∀ x ∈ bs, okA d x := fun x hx => hb x (by simp [hx])
    split at e
    · have := mixGo_ok v ha bs acc M hb' h e
      exact ⟨this.1, by simp; omega⟩
    · split at e
      · rename_i hm
        have := mixGo_ok v ha bs _ M hb' (fun x hx => by
          rcases List.mem_append.1 hx with hx | hx
          · exact h x hx
          · obtain rfl := List.mem_singleton.1 hx
            exact mixAt_ok ha (hb b (by simp)) hm) e
        exact ⟨this.1, by have h2 := this.2; simp at h2 ⊢; omega⟩
      · cases e
theorem dropGo_ok {d : Int} (v : Nat) {L : List At} (hL : ∀ a ∈ L, okA d a) : ∀ (tl_ acc M : List At), (∀ a ∈ tl_, okA d a) → (∀ b ∈ acc, okA d b) → dropGo v L tl_ acc = some M → (∀ b ∈ M, okA d b) ∧ M.length ≤ acc.length + tl_.length * L.length
  | [], acc, M, _, h, e => by
    obtain rfl := Option.some.inj e
    exact ⟨h, by simp⟩
  | a :: tl_, acc, M, ha, h, e => by
    unfold dropGo at e
    have ha' : ∀ x ∈ tl_, okA d x := fun x hx => ha x (by simp [hx])
    split at e
    · have := dropGo_ok v hL tl_ acc M ha' h e
      exact ⟨this.1, by have h2 := this.2; rw [List.length_cons, Nat.add_mul]; omega⟩
    · obtain ⟨M1, e1, e2⟩ := Option.bind_eq_some_iff.mp e
      have h1 := mixGo_ok v (ha a (by simp)) L acc M1 hL h e1
      have h2 := dropGo_ok v hL tl_ M1 M ha' h1.1 e2
      exact ⟨h2.1, by rw [List.length_cons, Nat.add_mul]; omega⟩
theorem drop_mid {d : Int} (v : Nat) {L M : List At} (hl : L.length ≤ 16) (hL : ∀ a ∈ L, okA d a) (e : dropGo v L L (L.filter (free v)) = some M) : (∀ b ∈ M, okA d b) ∧ M.length ≤ 100000 := by
  have := dropGo_ok v hL L _ M hL (fun b hb => hL b (List.mem_filter.1 hb).1) e
  have h1 := List.length_filter_le (free v) L
  have h2 : L.length * L.length ≤ 16 * 16 := Nat.mul_le_mul hl hl
  exact ⟨this.1, by omega⟩
theorem dropC_ok {d : Int} (hd : 0 ≤ d ∧ d ≤ 4) (v : Nat) {L : List At} (hl : L.length ≤ 16) (hL : ∀ a ∈ L, okA d a) (h : (dropC d v L).2.2 = true) : (dropC d v L).1 = d ∧ (dropC d v L).2.1.length ≤ 16 ∧ ∀ a ∈ (dropC d v L).2.1, okA d a := by
  unfold dropC at h ⊢
  cases e : dropGo v L L (L.filter (free v)) with
  | none => rw [e] at h; cases h
  | some M =>
    rw [e] at h
    obtain ⟨h1, h2⟩ := drop_mid v hl hL e
    simp only [limN] at h ⊢
    split at h
    · cases h
    · rename_i h16
      rw [if_neg h16]
      exact ⟨rfl, by show (nrm d M).length ≤ 16; omega, nrm_ok hd h1⟩
theorem coef_bd {d : Int} {a : At} (h : okA d a) (v : Nat) : -400000000 ≤ a.1.getD v 0 ∧ a.1.getD v 0 ≤ 400000000 := by
  by_cases hv : v < a.1.length
  · rw [getD_of_lt hv]
    exact isNum_iff.1 ((okA_num h).1 _ (List.getElem_mem _))
  · rw [List.getD_eq_getElem?_getD, List.getElem?_eq_none (by omega)]; simp
theorem drop_step {α : Type} {L S : List α} {a : α} {i : Nat} (h : L.drop i = a :: S) : ∃ hi : i < L.length, L[i] = a ∧ L.drop (i + 1) = S := by
  have hlt : i < L.length := by
    rcases Nat.lt_or_ge i L.length with h2 | h2
    · exact h2
    · rw [List.drop_of_length_le h2] at h; cases h
  rw [List.drop_eq_getElem_cons hlt] at h
  obtain ⟨h1, h2⟩ := List.cons.inj h
  exact ⟨hlt, h1, h2⟩
theorem drop_end {α : Type} {L : List α} {i : Nat} (h : L.drop i = []) : L.length ≤ i := by simpa using h
theorem okCe {d : Int} {L : List At} : isCe d L = true ↔ (0 ≤ d ∧ d ≤ 4) ∧ L.length ≤ 16 ∧ ∀ a ∈ L, okA d a := isCe_iff
def elim (d : Int) : Nat → List At → Option (List At)
  | 0, L => some L
  | n + 1, L => if (dropC d n L).2.2 = true then elim d n (dropC d n L).2.1 else none
def emptyC (d : Int) (L : List At) : Bool × Bool := if isCe d L then (match elim d d.toNat (nrm d L) with | none => (false, false) | some R => (decide (0 < R.length), true)) else (false, false)
def emRo : List (Int × List At) → Bool → Bool × Bool
  | [], b => (b, true)
  | c :: cs, b => if (emptyC c.1 c.2).2 = true then emRo cs (b && (emptyC c.1 c.2).1) else (false, false)
def emptyR (d : Int) (cs : List (Int × List At)) : Bool × Bool := if isRe d cs = true then emRo cs true else (false, false)
end Go.Proofs.YtjknjekemolndaaGreat.Abs.Pl
namespace Go.Proofs.YtjknjekemolndaaGreat.ZL
open Go Go.Proofs.YtjknjekemolndaaGreat.Abs Go.Proofs.YtjknjekemolndaaGreat.Abs.Pl Go.RowKit Go.Proofs
set_option linter.unusedVariables false
set_option linter.unusedSimpArgs false
abbrev I (n : Int) : V := .d (.int .i64 n)
abbrev Is (l : List Int) : V := .d (.sl l.length (l.map (D.int .i64)))
abbrev B (b : Bool) : V := .d (.bool b)
def inB (x lo hi : Int) : Bool := decide (lo ≤ x) && decide (x ≤ hi)
def aD (a : At) : List D := [.sl a.1.length (a.1.map (.int .i64)), .int .i64 a.2.1, .bool a.2.2]
def asD (L : List At) : List D := L.flatMap aD
abbrev aV (a : At) : List V := [Is a.1, I a.2.1, B a.2.2]
abbrev As (L : List At) : V := .d (.sl L.length (asD L))
abbrev A1 (a : At) : V := .agg (aV a)
abbrev C1 (d : Int) (L : List At) : V := .agg [I d, As L]
theorem asD_len (L : List At) : (asD L).length = L.length * 3 := by induction L with
  | nil => rfl
  | cons a L ih => simp [asD, aD] at *; omega
theorem asD_drop (L : List At) : ∀ i (h : i < L.length), (asD L).drop (i * 3) = aD L[i] ++ asD (L.drop (i + 1)) := by
  induction L with
  | nil => simp
  | cons a L ih =>
    intro i h
    cases i with
    | zero => simp [asD]
    | succ i =>
      have := ih i (by simpa using h)
      rw [show (i + 1) * 3 = 3 + i * 3 by omega, ← List.drop_drop]
      simpa [asD, aD] using this
def nth {α : Type} [Inhabited α] (l : List α) (i : Nat) : α := l.getD i default
theorem nth_eq {α : Type} [Inhabited α] {l : List α} {i : Nat} (h : i < l.length) : nth l i = l[i] := by simp [nth, List.getD_eq_getElem?_getD, h]
theorem nth_some {α : Type} [Inhabited α] {l : List α} {i : Nat} (h : i < l.length) : l[i]? = some (nth l i) := by rw [nth_eq h]; simp [h]
theorem nth_mem {α : Type} [Inhabited α] {l : List α} {i : Nat} (h : i < l.length) : nth l i ∈ l := by rw [nth_eq h]; simp
theorem nth_drop {α : Type} [Inhabited α] {l : List α} {i : Nat} (h : i < l.length) : l.drop i = nth l i :: l.drop (i + 1) := by rw [nth_eq h]; exact List.drop_eq_getElem_cons h
theorem nth_take {α : Type} [Inhabited α] {l : List α} {i : Nat} (h : i < l.length) : l.take (i + 1) = l.take i ++ [nth l i] := by rw [nth_eq h, List.take_add_one]; simp [h]
theorem drop_nil {α : Type} {l : List α} {i : Nat} (h : l.length ≤ i) : l.drop i = [] := by simp [h]
theorem asD_nth (L : List At) (i : Nat) (h : i < L.length) : (asD L).drop (i * 3) = aD (nth L i) ++ asD (L.drop (i + 1)) := by rw [nth_eq h]; exact asD_drop L i h
theorem asD_get0 (L : List At) (i : Nat) (h : i < L.length) : (asD L)[i * 3]? = some (.sl (nth L i).1.length ((nth L i).1.map (.int .i64))) := by
  have := asD_nth L i h
  have e : (asD L)[i * 3]? = ((asD L).drop (i * 3))[0]? := by simp
  rw [e, this]; rfl
theorem asD_get1 (L : List At) (i : Nat) (h : i < L.length) : (asD L)[i * 3 + 1]? = some (.int .i64 (nth L i).2.1) := by
  have := asD_nth L i h
  have e : (asD L)[i * 3 + 1]? = ((asD L).drop (i * 3))[1]? := by simp
  rw [e, this]; rfl
theorem asD_get2 (L : List At) (i : Nat) (h : i < L.length) : (asD L)[i * 3 + 2]? = some (.bool (nth L i).2.2) := by
  have := asD_nth L i h
  have e : (asD L)[i * 3 + 2]? = ((asD L).drop (i * 3))[2]? := by simp
  rw [e, this]; rfl
theorem asD_cut (L : List At) (i : Nat) (h : i < L.length) : ((asD L).drop (i * 3)).take 3 = aD (nth L i) := by
  rw [asD_nth L i h]; simp [aD]
theorem asD_cutV (L : List At) (i : Nat) (h : i < L.length) : List.take 3 (List.drop (i * 3) (List.map V.d (asD L))) = aV (nth L i) := by
  rw [← List.map_drop, ← List.map_take, asD_cut L i h]; rfl
theorem asD_take (L : List At) : ∀ i, (asD L).take (i * 3) = asD (L.take i) := by
  induction L with
  | nil => intro i; simp [asD]
  | cons a L ih =>
    intro i
    cases i with
    | zero => simp [asD]
    | succ i =>
      have := ih i
      rw [show (i + 1) * 3 = 3 + i * 3 by omega, List.take_add]
      simp [asD, aD] at this ⊢
      exact this
theorem asD_dropE (L : List At) : ∀ i, (asD L).drop (i * 3) = asD (L.drop i) := by
  induction L with
  | nil => intro i; simp [asD]
  | cons a L ih =>
    intro i
    cases i with
    | zero => simp [asD]
    | succ i =>
      have := ih i
      rw [show (i + 1) * 3 = 3 + i * 3 by omega, ← List.drop_drop]
      simpa [asD, aD] using this
theorem asD_drop3 (L : List At) (i : Nat) : (asD L).drop (i * 3 + 3) = asD (L.drop (i + 1)) := by rw [← asD_dropE]; congr 1; omega
theorem asD_cutD (L : List At) (i : Nat) (h : i < L.length) : (asD (L.drop i)).take 3 = aD (nth L i) := by rw [← asD_dropE]; exact asD_cut L i h
theorem dl_aD (a : At) : dl (aD a) = aV a := rfl
theorem asD_room (L : List At) (i : Nat) (h : i < L.length) : (i * 3 + 3 ≤ (asD L).length) = True := by rw [asD_len]; simp; omega
theorem asD_roomD (L : List At) (i : Nat) (h : i < L.length) : (i * 3 + 3 ≤ L.length * 3) = True := by simp; omega
theorem asD_append (L M : List At) : asD (L ++ M) = asD L ++ asD M := by simp [asD]
theorem asD_one (a : At) : asD [a] = aD a := by simp [asD]
theorem nth_int {l : List Int} {i : Nat} (h : i < l.length) : l[i]? = some (nth l i) := nth_some h
attribute [simp] nth_int asD_get0 asD_get1 asD_get2 asD_cutD dl_aD asD_take asD_dropE asD_drop3 asD_len asD_roomD
end Go.Proofs.YtjknjekemolndaaGreat.ZL
namespace Go.Proofs.YtjknjekemolndaaGreat.ZL
open Go Go.Proofs.YtjknjekemolndaaGreat.Abs Go.Proofs.YtjknjekemolndaaGreat.Abs.Pl Go.RowKit Go.Proofs
set_option linter.unusedVariables false
set_option linter.unusedSimpArgs false
theorem l1Abs (x : Int) (h : -9223372036854775807 ≤ x) (h' : x ≤ 9223372036854775807) : Cn Tryz.prog 163 [I x] (I x.natAbs) hemp := by
  refine Cn.of [] mixed Tryz.func163 rfl Tryz.call163 (by kernel_rfl) rfl ?_
  simp -implicitDefEqProofs -dsimp +contextual [-Int.not_le, -Int.not_lt, -getElem?_pos, -List.getD_eq_getElem?_getD, Tryz.f163]
  rw [wr (by omega) (by omega)]
  refine RLe.dd ?_
  split <;> simp [-Int.not_le, -Int.not_lt, -getElem?_pos, -List.getD_eq_getElem?_getD] <;> omega
theorem l2Gcd (l : List Int) (x : Int) (h40 : l.length < 2 ^ 40) (hm : ∀ y ∈ l, -9223372036854775807 ≤ y ∧ y ≤ 9223372036854775807) (hx : -9223372036854775807 ≤ x ∧ x ≤ 9223372036854775807)  : Cn Tryz.prog 143 [Is l, I x] (I (gcdF x.natAbs l : Nat)) hemp := by
  refine Cn.of [] mixed Tryz.func143 rfl Tryz.call143 (by kernel_rfl) rfl ?_
  simp -implicitDefEqProofs -dsimp +contextual [-Int.not_le, -Int.not_lt, -getElem?_pos, -List.getD_eq_getElem?_getD, Tryz.f143]
  refine CallJ.pure (l1Abs x hx.1 hx.2) rfl (by simp [-Int.not_le, -Int.not_lt, -getElem?_pos, -List.getD_eq_getElem?_getD]) ?_
  simp -implicitDefEqProofs -dsimp +contextual [-Int.not_le, -Int.not_lt, -getElem?_pos, -List.getD_eq_getElem?_getD]
  refine WP.loop mixed [] (fun p : Nat × Nat => ⟨tl [(0, Is l), (5, I p.2), (6, I p.1)], hl [], 1⟩) (fun p => p.1 ≤ l.length ∧ p.2 ≤ 9223372036854775807 ∧ gcdF p.2 (l.drop p.1) = gcdF x.natAbs l) (fun p => l.length - p.1) (0, x.natAbs) (by kernel_rfl) ?_ ?_ ?_
  · refine Le.told [] ?_ ?_ ?_ <;> simp [-Int.not_le, -Int.not_lt, -getElem?_pos, -List.getD_eq_getElem?_getD]
  · simp [-Int.not_le, -Int.not_lt, -getElem?_pos, -List.getD_eq_getElem?_getD]; omega
  · rintro ⟨i, g⟩ ⟨hi, hg, he⟩
    simp -implicitDefEqProofs -dsimp +contextual [-Int.not_le, -Int.not_lt, -getElem?_pos, -List.getD_eq_getElem?_getD]
    refine ⟨?_, ?_⟩
    · intro h
      have hy := hm (nth l i) (nth_mem h)
      refine CallJ.pure (l1Abs _ hy.1 hy.2) rfl (by simp [-Int.not_le, -Int.not_lt, -getElem?_pos, -List.getD_eq_getElem?_getD]) ?_
      simp -implicitDefEqProofs -dsimp +contextual [-Int.not_le, -Int.not_lt, -getElem?_pos, -List.getD_eq_getElem?_getD]
      refine WP.loop mixed [] (fun p : Nat × Nat => ⟨tl [(0, Is l), (5, I p.2), (6, I i), (7, I p.1)], hl [], 1⟩) (fun p => p.2 ≤ 9223372036854775807 ∧ p.1 ≤ 9223372036854775807 ∧ Nat.gcd p.2 p.1 = Nat.gcd g (nth l i).natAbs) (fun p => p.1) ((nth l i).natAbs, g) (by kernel_rfl) ?_ ?_ ?_
      · refine Le.told [] ?_ ?_ ?_ <;> simp [-Int.not_le, -Int.not_lt, -getElem?_pos, -List.getD_eq_getElem?_getD]
      · simp [-Int.not_le, -Int.not_lt, -getElem?_pos, -List.getD_eq_getElem?_getD]; simp [-Int.not_le, -Int.not_lt, -getElem?_pos, -List.getD_eq_getElem?_getD] at hg; omega
      · rintro ⟨s, g2⟩ ⟨h0, h1, h3⟩
        simp -implicitDefEqProofs -dsimp +contextual [-Int.not_le, -Int.not_lt, -getElem?_pos, -List.getD_eq_getElem?_getD]
        refine ⟨?_, ?_⟩
        · rintro rfl
          simp only at h0 h1 h3 he
          rw [wr (by omega) (by omega)]
          refine ⟨i + 1, g2, ⟨by omega, by omega, ?_⟩, by omega, ?_⟩
          · rw [← he, nth_drop h, gcdF_cons]
            rw [Nat.gcd_zero_right] at h3
            rw [h3]
          · refine Le.told [] ?_ ?_ ?_ <;> simp [-Int.not_le, -Int.not_lt, -getElem?_pos, -List.getD_eq_getElem?_getD]
        · intro hs
          have hlt : g2 % s < s := Nat.mod_lt _ (by omega)
          simp only at h0 h1 h3
          refine ⟨g2 % s, s, ⟨h1, by omega, ?_⟩, hlt, ?_⟩
          · rw [← h3, Nat.gcd_comm s, ← Nat.gcd_rec, Nat.gcd_comm]
          · refine Le.told [] ?_ ?_ ?_ <;> simp [-Int.not_le, -Int.not_lt, -getElem?_pos, -List.getD_eq_getElem?_getD]
            exact Int.tmod_eq_emod_of_nonneg (by omega)
    · intro h
      refine RLe.dd ?_
      have e : l.drop i = [] := drop_nil (by omega)
      simp only [e] at he
      rw [← he]
      rfl
theorem l1In (x lo hi : Int) : Cn Tryz.prog 55 [I x, I lo, I hi] (B (inB x lo hi)) hemp := by
  refine Cn.of [] mixed Tryz.func55 rfl Tryz.call55 (by kernel_rfl) rfl ?_
  simp -implicitDefEqProofs -dsimp +contextual [-Int.not_le, -Int.not_lt, -getElem?_pos, -List.getD_eq_getElem?_getD, Tryz.f55, inB]
  exact ⟨fun _ => RLe.dd rfl, fun _ => RLe.dd rfl⟩
theorem IsNumber (x : Int) : Cn Tryz.prog 142 [I x] (B (isNum x)) hemp := by
  refine Cn.of [] mixed Tryz.func142 rfl Tryz.call142 (by kernel_rfl) rfl ?_
  simp -implicitDefEqProofs -dsimp +contextual [-Int.not_le, -Int.not_lt, -getElem?_pos, -List.getD_eq_getElem?_getD, Tryz.f142]
  refine CallJ.pure (l1In x _ _) rfl (by simp [-Int.not_le, -Int.not_lt, -getElem?_pos, -List.getD_eq_getElem?_getD]) ?_
  simp -implicitDefEqProofs -dsimp +contextual [-Int.not_le, -Int.not_lt, -getElem?_pos, -List.getD_eq_getElem?_getD]
  exact RLe.dd rfl
theorem GcdOf (a b : Int) : Cn Tryz.prog 167 [I a, I b] (I (gcdOf a b)) hemp := by
  refine Cn.of [] mixed Tryz.func167 rfl Tryz.call167 (by kernel_rfl) rfl ?_
  simp -implicitDefEqProofs -dsimp +contextual [-Int.not_le, -Int.not_lt, -getElem?_pos, -List.getD_eq_getElem?_getD, Tryz.f167]
  refine CallJ.pure (IsNumber a) rfl (by simp [-Int.not_le, -Int.not_lt, -getElem?_pos, -List.getD_eq_getElem?_getD]) ?_
  simp -implicitDefEqProofs -dsimp +contextual [-Int.not_le, -Int.not_lt, -getElem?_pos, -List.getD_eq_getElem?_getD]
  refine ⟨fun ha => ?_, fun ha => RLe.ii (by simp [-Int.not_le, -Int.not_lt, -getElem?_pos, -List.getD_eq_getElem?_getD, gcdOf, ha])⟩
  refine CallJ.pure (IsNumber b) rfl (by simp [-Int.not_le, -Int.not_lt, -getElem?_pos, -List.getD_eq_getElem?_getD]) ?_
  simp -implicitDefEqProofs -dsimp +contextual [-Int.not_le, -Int.not_lt, -getElem?_pos, -List.getD_eq_getElem?_getD, ha]
  refine ⟨fun hb => ?_, fun hb => RLe.ii (by simp [-Int.not_le, -Int.not_lt, -getElem?_pos, -List.getD_eq_getElem?_getD, gcdOf, hb])⟩
  have na := isNum_iff.1 ha
  have nb := isNum_iff.1 hb
  refine WP.loop mixed [] (fun p : Int × Int => ⟨tl [(0, I p.1), (1, I p.2)], hl [], 1⟩) (fun p => (-400000000 ≤ p.1 ∧ p.1 ≤ 400000000) ∧ (-400000000 ≤ p.2 ∧ p.2 ≤ 400000000) ∧ Int.gcd p.1 p.2 = Int.gcd a b) (fun p => p.2.natAbs) (a, b) (by kernel_rfl) ?_ ?_ ?_
  · refine Le.told [] ?_ ?_ ?_ <;> simp [-Int.not_le, -Int.not_lt, -getElem?_pos, -List.getD_eq_getElem?_getD]
  · simp [-Int.not_le, -Int.not_lt, -getElem?_pos, -List.getD_eq_getElem?_getD, na, nb]
  · rintro ⟨x, y⟩ ⟨hx, hy, he⟩
    simp only at hx hy he
    simp -implicitDefEqProofs -dsimp +contextual [-Int.not_le, -Int.not_lt, -getElem?_pos, -List.getD_eq_getElem?_getD]
    refine ⟨?_, ?_⟩
    · rintro rfl
      refine CallJ.pure (l1Abs x (by omega) (by omega)) rfl (by simp [-Int.not_le, -Int.not_lt, -getElem?_pos, -List.getD_eq_getElem?_getD]) ?_
      simp -implicitDefEqProofs -dsimp +contextual [-Int.not_le, -Int.not_lt, -getElem?_pos, -List.getD_eq_getElem?_getD]
      refine RLe.ii ?_
      simp [-Int.not_le, -Int.not_lt, -getElem?_pos, -List.getD_eq_getElem?_getD, gcdOf, ha, hb, ← he]
    · intro h
      have ht := tmod_lt (a := x) h
      refine ⟨y, x.tmod y, ⟨by omega, by omega, ?_⟩, ht, ?_⟩
      · rw [← he]
        unfold Int.gcd
        rw [Int.natAbs_tmod, Nat.gcd_comm y.natAbs, ← Nat.gcd_rec, Nat.gcd_comm]
      · refine Le.told [] ?_ ?_ ?_ <;> simp [-Int.not_le, -Int.not_lt, -getElem?_pos, -List.getD_eq_getElem?_getD]
theorem IsAtom (a : At) : Cn Tryz.prog 99 [A1 a] (B (isAt a.1 a.2.1)) hemp := by
  refine Cn.of [] mixed Tryz.func99 rfl Tryz.call99 (by kernel_rfl) rfl ?_
  simp -implicitDefEqProofs -dsimp +contextual [-Int.not_le, -Int.not_lt, -getElem?_pos, -List.getD_eq_getElem?_getD, Tryz.f99]
  refine ⟨fun h4 => RLe.bb (by simp [-Int.not_le, -Int.not_lt, -getElem?_pos, -List.getD_eq_getElem?_getD, isAt]; omega), fun h4 => ?_⟩
  refine CallJ.pure (IsNumber _) rfl (by simp [-Int.not_le, -Int.not_lt, -getElem?_pos, -List.getD_eq_getElem?_getD]) ?_
  simp -implicitDefEqProofs -dsimp +contextual [-Int.not_le, -Int.not_lt, -getElem?_pos, -List.getD_eq_getElem?_getD, h4]
  refine ⟨fun hc => ?_, fun hc => RLe.bb (by simp [-Int.not_le, -Int.not_lt, -getElem?_pos, -List.getD_eq_getElem?_getD, isAt, hc])⟩
  refine WP.loop mixed [] (fun i : Nat => ⟨tl [(1, .ptr (0, 0) 0), (3, I i)], hl [((0, 0), .box (aV a))], 3⟩) (fun i => i ≤ a.1.length ∧ a.1.all isNum = (a.1.drop i).all isNum) (fun i => a.1.length - i) 0 (by kernel_rfl) ?_ ?_ ?_
  · refine Le.told [] ?_ ?_ ?_ <;> simp [-Int.not_le, -Int.not_lt, -getElem?_pos, -List.getD_eq_getElem?_getD]
  · simp [-Int.not_le, -Int.not_lt, -getElem?_pos, -List.getD_eq_getElem?_getD]
  · rintro i ⟨hi, he⟩
    simp -implicitDefEqProofs -dsimp +contextual [-Int.not_le, -Int.not_lt, -getElem?_pos, -List.getD_eq_getElem?_getD]
    refine ⟨fun h => ?_, fun h => ?_⟩
    · refine CallJ.pure (IsNumber _) rfl (by simp [-Int.not_le, -Int.not_lt, -getElem?_pos, -List.getD_eq_getElem?_getD]) ?_
      simp -implicitDefEqProofs -dsimp +contextual [-Int.not_le, -Int.not_lt, -getElem?_pos, -List.getD_eq_getElem?_getD]
      rw [nth_drop h, List.all_cons] at he
      refine ⟨fun hn => ?_, fun hn => RLe.bb (by rw [hn] at he; rw [isAt, he]; simp [-Int.not_le, -Int.not_lt, -getElem?_pos, -List.getD_eq_getElem?_getD])⟩
      refine ⟨i + 1, ⟨h, by rw [he, hn]; rfl⟩, by omega, ?_⟩
      refine Le.told [] ?_ ?_ ?_ <;> simp [-Int.not_le, -Int.not_lt, -getElem?_pos, -List.getD_eq_getElem?_getD, wr (x := (i : Int) + 1) (by omega) (by omega)]
    · rw [drop_nil (by omega)] at he
      have hb : ∀ x ∈ a.1, -9223372036854775807 ≤ x ∧ x ≤ 9223372036854775807 := fun x hx => isNum_bd (List.all_eq_true.1 (he.trans rfl) x hx)
      refine CallJ.pure (l2Gcd a.1 a.2.1 (by omega) hb (isNum_bd hc)) rfl (by simp [-Int.not_le, -Int.not_lt, -getElem?_pos, -List.getD_eq_getElem?_getD]) ?_
      simp -implicitDefEqProofs -dsimp +contextual [-Int.not_le, -Int.not_lt, -getElem?_pos, -List.getD_eq_getElem?_getD]
      refine RLe.bb ?_
      have he' : a.1.all isNum = true := he
      rw [isAt, hc, he', gcdF_eq, Nat.gcd_comm]
      have h4' : a.1.length ≤ 4 := by omega
      simp [-Int.not_le, -Int.not_lt, -getElem?_pos, -List.getD_eq_getElem?_getD, h4']
      generalize (gcdL a.1).gcd a.2.1.natAbs = g
      constructor <;> intro h <;> omega
end Go.Proofs.YtjknjekemolndaaGreat.ZL
namespace Go.Proofs.YtjknjekemolndaaGreat.ZL
open Go Go.Proofs.YtjknjekemolndaaGreat.Abs Go.Proofs.YtjknjekemolndaaGreat.Abs.Pl Go.RowKit Go.Proofs
set_option linter.unusedVariables false
set_option linter.unusedSimpArgs false
def nuA (a : At) : Prop := a.1.length ≤ 1048576 ∧ (∀ x ∈ a.1, isNum x = true) ∧ isNum a.2.1 = true
theorem nuA.bd {a : At} (h : nuA a) : ∀ x ∈ a.1, -9223372036854775807 ≤ x ∧ x ≤ 9223372036854775807 := fun x hx => isNum_bd (h.2.1 x hx)
theorem nuA.gcd {a : At} (h : nuA a) : gcdL a.1 ≤ 400000000 := gcdL_le a.1 400000000 fun x hx => by have := isNum_iff.1 (h.2.1 x hx); omega
theorem okA.nu {d : Int} {a : At} (h : okA d a) : nuA a := ⟨by have := (okA_num h).2.2; omega, (okA_num h).1, (okA_num h).2.1⟩
def truA (a : At) : Bool := !(decide (0 < a.2.1) || decide (a.2.1 = 0) && a.2.2)
theorem l2Constant (a : At) (h40 : a.1.length ≤ 1048576) : Cn Tryz.prog 120 [A1 a] (B (decide (gcdL a.1 = 0))) hemp := by
  refine Cn.of [] mixed Tryz.func120 rfl Tryz.call120 (by kernel_rfl) rfl ?_
  simp -implicitDefEqProofs -dsimp +contextual [-Int.not_le, -Int.not_lt, -getElem?_pos, -List.getD_eq_getElem?_getD, Tryz.f120]
  refine WP.loop mixed [] (fun i : Nat => ⟨tl [(1, .ptr (0, 0) 0), (3, I i)], hl [((0, 0), .box (aV a))], 3⟩) (fun i => i ≤ a.1.length ∧ decide (gcdL a.1 = 0) = (a.1.drop i).all fun x => decide (x = 0)) (fun i => a.1.length - i) 0 (by kernel_rfl) ?_ ?_ ?_
  · refine Le.told [] ?_ ?_ ?_ <;> simp [-Int.not_le, -Int.not_lt, -getElem?_pos, -List.getD_eq_getElem?_getD]
  · refine ⟨Nat.zero_le _, ?_⟩
    rw [List.drop_zero, Bool.eq_iff_iff]
    simp [-Int.not_le, -Int.not_lt, -getElem?_pos, -List.getD_eq_getElem?_getD, gcdL_zero]
  · rintro i ⟨hi, he⟩
    simp -implicitDefEqProofs -dsimp +contextual [-Int.not_le, -Int.not_lt, -getElem?_pos, -List.getD_eq_getElem?_getD]
    refine ⟨fun h => ?_, fun h => ?_⟩
    · rw [nth_drop h, List.all_cons] at he
      refine ⟨fun hn => ?_, fun hn => RLe.bb (by rw [he]; simp [-Int.not_le, -Int.not_lt, -getElem?_pos, -List.getD_eq_getElem?_getD, hn])⟩
      refine ⟨i + 1, ⟨h, by rw [he]; simp [-Int.not_le, -Int.not_lt, -getElem?_pos, -List.getD_eq_getElem?_getD, hn]⟩, by omega, ?_⟩
      refine Le.told [] ?_ ?_ ?_ <;> simp [-Int.not_le, -Int.not_lt, -getElem?_pos, -List.getD_eq_getElem?_getD, wr (x := (i : Int) + 1) (by omega) (by omega)]
    · rw [drop_nil (by omega)] at he
      exact RLe.bb (by rw [he]; rfl)
theorem l2Truth (a : At) : Cn Tryz.prog 126 [A1 a] (B (truA a)) hemp := by
  refine Cn.of [] mixed Tryz.func126 rfl Tryz.call126 (by kernel_rfl) rfl ?_
  simp -implicitDefEqProofs -dsimp +contextual [-Int.not_le, -Int.not_lt, -getElem?_pos, -List.getD_eq_getElem?_getD, Tryz.f126]
  refine ⟨fun h => RLe.bb ?_, fun h => ⟨fun h0 => RLe.bb ?_, fun h0 => RLe.bb ?_⟩⟩ <;> unfold truA
  · simp [-Int.not_le, -Int.not_lt, -getElem?_pos, -List.getD_eq_getElem?_getD]; omega
  · simp [-Int.not_le, -Int.not_lt, -getElem?_pos, -List.getD_eq_getElem?_getD, h0]
  · simp [-Int.not_le, -Int.not_lt, -getElem?_pos, -List.getD_eq_getElem?_getD, h0]; omega
theorem l2Steep (a : At) (h : nuA a) : Cn Tryz.prog 181 [A1 a] (I (gcdL a.1 : Nat)) hemp := by
  refine Cn.of [] mixed Tryz.func181 rfl Tryz.call181 (by kernel_rfl) rfl ?_
  simp -implicitDefEqProofs -dsimp +contextual [-Int.not_le, -Int.not_lt, -getElem?_pos, -List.getD_eq_getElem?_getD, Tryz.f181]
  refine CallJ.pure (l2Gcd a.1 0 (by have := h.1; omega) h.bd (by omega)) rfl (by simp [-Int.not_le, -Int.not_lt, -getElem?_pos, -List.getD_eq_getElem?_getD]) ?_
  simp -implicitDefEqProofs -dsimp +contextual [-Int.not_le, -Int.not_lt, -getElem?_pos, -List.getD_eq_getElem?_getD]
  exact RLe.ii rfl
theorem l3Atom (a : At) (h : a.1.length ≤ 1048576) : Cn Tryz.prog 129 [A1 a] (A1 a) hemp := by
  refine Cn.of [] mixed Tryz.func129 rfl Tryz.call129 (by kernel_rfl) rfl ?_
  simp -implicitDefEqProofs -dsimp +contextual [-Int.not_le, -Int.not_lt, -getElem?_pos, -List.getD_eq_getElem?_getD, Tryz.f129]
  refine ⟨⟨by omega, by simp [-Int.not_le, -Int.not_lt, -getElem?_pos, -List.getD_eq_getElem?_getD, maxLen]; omega⟩, RLe.pure 3 ?_⟩
  simp [-Int.not_le, -Int.not_lt, -getElem?_pos, -List.getD_eq_getElem?_getD, setH]
end Go.Proofs.YtjknjekemolndaaGreat.ZL
namespace Go.Proofs.YtjknjekemolndaaGreat.ZL
open Go Go.Proofs.YtjknjekemolndaaGreat.Abs Go.Proofs.YtjknjekemolndaaGreat.Abs.Pl Go.RowKit Go.Proofs
set_option linter.unusedVariables false
set_option linter.unusedSimpArgs false
abbrev A2 (r : At2) : V := .tup [A1 (r.1, r.2.1, r.2.2.1), B r.2.2.2]
theorem tdiv64 {a g : Int} (h : -9223372036854775807 ≤ a) (h' : a ≤ 9223372036854775807) : IntKind.wrap .i64 (a.tdiv g) = a.tdiv g := by
  have := tdiv_le a g
  exact wr (by omega) (by omega)
theorem max1 (n : Nat) : (if (1 : Int) < (n : Int) then (n : Int) else 1) = div1 n := by unfold div1; split <;> split <;> omega
theorem l2Atom (l : List Int) (c : Int) (s : Bool) (h40 : l.length ≤ 1048576) (hm : ∀ y ∈ l, -9223372036854775807 ≤ y ∧ y ≤ 9223372036854775807) (hc : -9223372036854775807 ≤ c ∧ c ≤ 9223372036854775807) : Cn Tryz.prog 144 [Is l, I c, B s] (A2 (mkAt l c s)) hemp := by
  refine Cn.of [] mixed Tryz.func144 rfl Tryz.call144 (by kernel_rfl) rfl ?_
  simp -implicitDefEqProofs -dsimp +contextual [-Int.not_le, -Int.not_lt, -getElem?_pos, -List.getD_eq_getElem?_getD, Tryz.f144]
  refine CallJ.pure (l2Gcd l c (by omega) hm hc) rfl (by simp [-Int.not_le, -Int.not_lt, -getElem?_pos, -List.getD_eq_getElem?_getD]) ?_
  simp -implicitDefEqProofs -dsimp +contextual [-Int.not_le, -Int.not_lt, -getElem?_pos, -List.getD_eq_getElem?_getD]
  have hg : gcdF c.natAbs l = Nat.gcd (gcdL l) c.natAbs := by rw [gcdF_eq, Nat.gcd_comm]
  have hp := div1_pos (Nat.gcd (gcdL l) c.natAbs)
  rw [hg, max1, tdiv64 hc.1 hc.2]
  have em : mkAt l c s = if isAt (l.map (·.tdiv (div1 (Nat.gcd (gcdL l) c.natAbs)))) (c.tdiv (div1 (Nat.gcd (gcdL l) c.natAbs))) then (l.map (·.tdiv (div1 (Nat.gcd (gcdL l) c.natAbs))), c.tdiv (div1 (Nat.gcd (gcdL l) c.natAbs)), s, true) else noAt := rfl
  rw [em]
  generalize div1 (Nat.gcd (gcdL l) c.natAbs) = g at hp ⊢
  refine ⟨by omega, ?_⟩
  refine WP.loop mixed [] (fun i : Nat => ⟨tl [(0, Is l), (6, .ptr (0, 0) 0), (8, I g), (9, .ptr (12, 0) 0), (10, I i)], hl [((0, 0), .box [.nil, I 0, B false]), ((12, 0), .box [.ref (15, 0) i, I (c.tdiv g), B s]), ((15, 0), .row 3 i (dl ((l.take i).map fun x => .int .i64 (x.tdiv g))))], 16⟩) (fun i => i ≤ l.length) (fun i => l.length - i) 0 (by kernel_rfl) ?_ ?_ ?_
  · refine Le.trans (Le.nilBox (12, 0) 0 3 (c := [.nil, I (c.tdiv g), B s]) (by simp [-Int.not_le, -Int.not_lt, -getElem?_pos, -List.getD_eq_getElem?_getD, setH]) rfl) (Le.told [] ?_ ?_ ?_) <;> simp [-Int.not_le, -Int.not_lt, -getElem?_pos, -List.getD_eq_getElem?_getD, setH, ELe]
  · simp [-Int.not_le, -Int.not_lt, -getElem?_pos, -List.getD_eq_getElem?_getD]
  · intro i hi
    simp -implicitDefEqProofs -dsimp +contextual [-Int.not_le, -Int.not_lt, -getElem?_pos, -List.getD_eq_getElem?_getD]
    refine ⟨fun h => ?_, fun h => ?_⟩
    · refine ⟨by omega, ⟨by omega, by simp [-Int.not_le, -Int.not_lt, -getElem?_pos, -List.getD_eq_getElem?_getD, maxLen]; omega⟩, by kernel_rfl, ?_⟩
      have hy := hm (nth l i) (nth_mem h)
      refine ⟨i + 1, by omega, by omega, ?_⟩
      rw [tdiv64 hy.1 hy.2, wr (by omega) (by omega)]
      refine Le.told [((15, 0), (29, 0))] ?_ ?_ ?_ <;> simp [-Int.not_le, -Int.not_lt, -getElem?_pos, -List.getD_eq_getElem?_getD]
      rw [← List.map_take, ← List.map_take, nth_take h]
      simp [-Int.not_le, -Int.not_lt, -getElem?_pos, -List.getD_eq_getElem?_getD]
    · obtain rfl : i = l.length := by omega
      have hT : List.take l.length (List.map (fun x => D.int IntKind.i64 (x.tdiv g)) l) = List.map (D.int IntKind.i64 ∘ fun x => x.tdiv g) l := by rw [List.take_of_length_le (by simp [-Int.not_le, -Int.not_lt, -getElem?_pos, -List.getD_eq_getElem?_getD])]; rfl
      refine CallJ.lent (ks := [(15, 0)]) 3 (IsAtom (l.map (·.tdiv g), c.tdiv g, s)) (by simp [-Int.not_le, -Int.not_lt, -getElem?_pos, -List.getD_eq_getElem?_getD, hT]) (by simp [-Int.not_le, -Int.not_lt, -getElem?_pos, -List.getD_eq_getElem?_getD]) rfl (by simp [-Int.not_le, -Int.not_lt, -getElem?_pos, -List.getD_eq_getElem?_getD]) ?_
      simp -implicitDefEqProofs -dsimp +contextual [-Int.not_le, -Int.not_lt, -getElem?_pos, -List.getD_eq_getElem?_getD]
      refine ⟨fun hb => RLe.pure 3 ?_, fun hb => RLe.pure 3 ?_⟩
      · simp [-Int.not_le, -Int.not_lt, -getElem?_pos, -List.getD_eq_getElem?_getD, setH, hT]
      · simp [-Int.not_le, -Int.not_lt, -getElem?_pos, -List.getD_eq_getElem?_getD, noAt, setH]
end Go.Proofs.YtjknjekemolndaaGreat.ZL
namespace Go.Proofs.YtjknjekemolndaaGreat.ZL
open Go Go.Proofs.YtjknjekemolndaaGreat.Abs Go.Proofs.YtjknjekemolndaaGreat.Abs.Pl Go.RowKit Go.Proofs
set_option linter.unusedVariables false
set_option linter.unusedSimpArgs false
theorem cmpDir_cons (g h x y : Int) (l m : List Int) : cmpDir g h (x :: l) (y :: m) = if x.tdiv g < y.tdiv h then -1 else if y.tdiv h < x.tdiv g then 1 else cmpDir g h l m := rfl
theorem l2Way (a b : At) (ha : nuA a) (hb : nuA b) : Cn Tryz.prog 160 [A1 a, A1 b] (I (wayAt a.1 b.1)) hemp := by
  refine Cn.of [] mixed Tryz.func160 rfl Tryz.call160 (by kernel_rfl) rfl ?_
  simp -implicitDefEqProofs -dsimp +contextual [-Int.not_le, -Int.not_lt, -getElem?_pos, -List.getD_eq_getElem?_getD, Tryz.f160]
  refine CallJ.pure (l2Steep a ha) rfl (by simp [-Int.not_le, -Int.not_lt, -getElem?_pos, -List.getD_eq_getElem?_getD]) ?_
  simp -implicitDefEqProofs -dsimp +contextual [-Int.not_le, -Int.not_lt, -getElem?_pos, -List.getD_eq_getElem?_getD]
  refine CallJ.pure (l2Steep b hb) rfl (by simp [-Int.not_le, -Int.not_lt, -getElem?_pos, -List.getD_eq_getElem?_getD]) ?_
  simp -implicitDefEqProofs -dsimp +contextual [-Int.not_le, -Int.not_lt, -getElem?_pos, -List.getD_eq_getElem?_getD]
  rw [max1, max1]
  have hp := div1_pos (gcdL a.1)
  have hq := div1_pos (gcdL b.1)
  unfold wayAt
  generalize div1 (gcdL a.1) = g at hp ⊢
  generalize div1 (gcdL b.1) = h at hq ⊢
  have la := ha.1
  refine WP.loop mixed [] (fun i : Nat => ⟨tl [(2, .ptr (0, 0) 0), (3, .ptr (1, 0) 0), (5, I g), (6, I h), (7, I i)], hl [((0, 0), .box (aV a)), ((1, 0), .box (aV b))], 2⟩) (fun i => i ≤ a.1.length ∧ cmpDir g h a.1 b.1 = cmpDir g h (a.1.drop i) (b.1.drop i)) (fun i => a.1.length - i) 0 (by kernel_rfl) ?_ ?_ ?_
  · refine Le.told [] ?_ ?_ ?_ <;> simp [-Int.not_le, -Int.not_lt, -getElem?_pos, -List.getD_eq_getElem?_getD]
  · simp [-Int.not_le, -Int.not_lt, -getElem?_pos, -List.getD_eq_getElem?_getD]
  · rintro i ⟨hi, he⟩
    simp -implicitDefEqProofs -dsimp +contextual [-Int.not_le, -Int.not_lt, -getElem?_pos, -List.getD_eq_getElem?_getD]
    have sa : ∀ h : i < a.1.length, IntKind.wrap .i64 ((nth a.1 i).tdiv g) = (nth a.1 i).tdiv g := fun h => have hy := ha.bd _ (nth_mem h); tdiv64 hy.1 hy.2
    have sb : ∀ h' : i < b.1.length, IntKind.wrap .i64 ((nth b.1 i).tdiv h) = (nth b.1 i).tdiv h := fun h => have hy := hb.bd _ (nth_mem h); tdiv64 hy.1 hy.2
    refine ⟨fun h1 => ⟨fun h2 => ?_, fun h2 => RLe.ii ?_⟩, fun h1 => RLe.ii ?_⟩
    · rw [sa h1, sb h2]
      rw [nth_drop h1, nth_drop h2] at he
      rw [cmpDir_cons] at he
      refine ⟨by omega, by omega, fun e => ⟨i + 1, ⟨h1, ?_⟩, by omega, ?_⟩, fun e => ⟨fun e2 => RLe.ii ?_, fun e2 => RLe.ii ?_⟩⟩
      · rw [he, if_neg (by omega), if_neg (by omega)]
      · refine Le.told [] ?_ ?_ ?_ <;> simp [-Int.not_le, -Int.not_lt, -getElem?_pos, -List.getD_eq_getElem?_getD, wr (x := (i : Int) + 1) (by omega) (by omega)]
      · rw [he, if_pos e2]
      · rw [he, if_neg e2, if_pos (by omega)]
    · rw [he, drop_nil (l := b.1) (by omega)]
      unfold cmpDir
      split <;> simp_all [-Int.not_le, -Int.not_lt, -getElem?_pos, -List.getD_eq_getElem?_getD]
    · rw [he, drop_nil (l := a.1) (by omega)]
      unfold cmpDir
      rfl
theorem mul_bd2 {a : Int} (ha : isNum a = true) {n : Nat} (hn : n ≤ 400000000) : IntKind.wrap .i64 (a * div1 n) = a * div1 n := by
  have hp := div1_pos n
  have h1 : div1 n ≤ 400000000 := by unfold div1; split <;> omega
  have := mul_bd (isNum_iff.1 ha) (b := div1 n) ⟨by omega, h1⟩
  exact wr (by omega) (by omega)
theorem stronger_iff (a b : At) : (decide (a.2.1 * div1 (gcdL b.1) < b.2.1 * div1 (gcdL a.1)) || decide (b.2.1 * div1 (gcdL a.1) = a.2.1 * div1 (gcdL b.1)) && (b.2.2 || !a.2.2)) = decide (0 ≤ stA b a) := by
  have h := stA_iff a b
  have hf := stA_flip a b
  rw [Bool.eq_iff_iff]
  simp only [Bool.or_eq_true, Bool.and_eq_true, decide_eq_true_eq, Bool.not_eq_true']
  have e : 0 ≤ stA b a ↔ stA a b ≤ 0 := by omega
  rw [e, h]
  constructor
  · rintro (h1 | ⟨h1, h2⟩)
    · exact .inl h1
    · exact .inr ⟨h1.symm, fun h3 => h2.resolve_right (by rw [h3]; simp [-Int.not_le, -Int.not_lt, -getElem?_pos, -List.getD_eq_getElem?_getD])⟩
  · rintro (h1 | ⟨h1, h2⟩)
    · exact .inl h1
    · refine .inr ⟨h1.symm, ?_⟩
      cases hs : a.2.2
      · exact .inr rfl
      · exact .inl (h2 hs)
theorem l2Stronger (a b : At) (ha : nuA a) (hb : nuA b) : Cn Tryz.prog 161 [A1 a, A1 b] (B (decide (0 ≤ stA a b))) hemp := by
  refine Cn.of [] mixed Tryz.func161 rfl Tryz.call161 (by kernel_rfl) rfl ?_
  simp -implicitDefEqProofs -dsimp +contextual [-Int.not_le, -Int.not_lt, -getElem?_pos, -List.getD_eq_getElem?_getD, Tryz.f161]
  refine CallJ.pure (l2Steep b hb) rfl (by simp [-Int.not_le, -Int.not_lt, -getElem?_pos, -List.getD_eq_getElem?_getD]) ?_
  simp -implicitDefEqProofs -dsimp +contextual [-Int.not_le, -Int.not_lt, -getElem?_pos, -List.getD_eq_getElem?_getD]
  refine CallJ.pure (l2Steep a ha) rfl (by simp [-Int.not_le, -Int.not_lt, -getElem?_pos, -List.getD_eq_getElem?_getD]) ?_
  simp -implicitDefEqProofs -dsimp (maxSteps := 1000000) +contextual [-Int.not_le, -Int.not_lt, -getElem?_pos, -List.getD_eq_getElem?_getD]
  rw [max1, max1, mul_bd2 ha.2.2 hb.gcd, mul_bd2 hb.2.2 ha.gcd, ← stronger_iff]
  refine ⟨fun h => RLe.bb (by simp [-Int.not_le, -Int.not_lt, -getElem?_pos, -List.getD_eq_getElem?_getD, h]), fun h => ⟨fun h2 => ⟨fun h3 => RLe.bb ?_, fun h3 => RLe.bb ?_⟩, fun h2 => RLe.bb ?_⟩⟩
  · simp [-Int.not_le, -Int.not_lt, -getElem?_pos, -List.getD_eq_getElem?_getD, h2, h3]
  · simp [-Int.not_le, -Int.not_lt, -getElem?_pos, -List.getD_eq_getElem?_getD, h2, h3]
  · simp [-Int.not_le, -Int.not_lt, -getElem?_pos, -List.getD_eq_getElem?_getD, h, h2]
theorem l3None (d : Int) (hd : 0 ≤ d ∧ d ≤ 4) : Cn Tryz.prog 127 [I d] (C1 d [noneA d]) hemp := by
  refine Cn.of [] mixed Tryz.func127 rfl Tryz.call127 (by kernel_rfl) rfl ?_
  simp -implicitDefEqProofs -dsimp +contextual [-Int.not_le, -Int.not_lt, -getElem?_pos, -List.getD_eq_getElem?_getD, Tryz.f127]
  refine ⟨⟨hd.1, by omega, by simp [-Int.not_le, -Int.not_lt, -getElem?_pos, -List.getD_eq_getElem?_getD, maxLen]; omega⟩, RLe.pure 3 ?_⟩
  simp [-Int.not_le, -Int.not_lt, -getElem?_pos, -List.getD_eq_getElem?_getD, setH, asD, aD, noneA]
end Go.Proofs.YtjknjekemolndaaGreat.ZL
namespace Go.Proofs.YtjknjekemolndaaGreat.ZL
open Go Go.Proofs.YtjknjekemolndaaGreat.Abs Go.Proofs.YtjknjekemolndaaGreat.Abs.Pl Go.RowKit Go.Proofs
set_option linter.unusedVariables false
set_option linter.unusedSimpArgs false
theorem asD_cons (a : At) (L : List At) : asD (a :: L) = aD a ++ asD L := by simp [-Int.not_le, -Int.not_lt, -getElem?_pos, -List.getD_eq_getElem?_getD, asD]
theorem l3Put (R : List At) (a : At) (hR : ∀ x ∈ R, nuA x) (ha : nuA a) (h20 : R.length ≤ 200000) : Cn Tryz.prog 128 [As R, A1 a] (As (putN a R)) hemp := by
  refine Cn.of [] mixed Tryz.func128 rfl Tryz.call128 (by kernel_rfl) rfl ?_
  simp -implicitDefEqProofs -dsimp +contextual [-Int.not_le, -Int.not_lt, -getElem?_pos, -List.getD_eq_getElem?_getD, Tryz.f128]
  refine WP.loop mixed [] (fun i : Nat => ⟨tl [(0, As R), (3, .ptr (0, 0) 0), (5, I i)], hl [((0, 0), .box (aV a))], 3⟩) (fun i => i ≤ R.length ∧ putN a R = R.take i ++ putN a (R.drop i)) (fun i => R.length - i) 0 (by kernel_rfl) ?_ ?_ ?_
  · refine Le.told [] ?_ ?_ ?_ <;> simp [-Int.not_le, -Int.not_lt, -getElem?_pos, -List.getD_eq_getElem?_getD]
  · simp [-Int.not_le, -Int.not_lt, -getElem?_pos, -List.getD_eq_getElem?_getD]
  · rintro i ⟨hi, he⟩
    simp -implicitDefEqProofs -dsimp +contextual [-Int.not_le, -Int.not_lt, -getElem?_pos, -List.getD_eq_getElem?_getD]
    refine ⟨fun h => ?_, fun h => ?_⟩
    · have hn := hR _ (nth_mem h)
      rw [nth_drop h] at he
      refine CallJ.pure (l2Way (nth R i) a hn ha) rfl (by simp [-Int.not_le, -Int.not_lt, -getElem?_pos, -List.getD_eq_getElem?_getD]) ?_
      simp -implicitDefEqProofs -dsimp +contextual [-Int.not_le, -Int.not_lt, -getElem?_pos, -List.getD_eq_getElem?_getD, h]
      refine ⟨fun hw => ?_, fun hw => ?_⟩
      · refine ⟨i + 1, ⟨h, ?_⟩, by omega, ?_⟩
        · rw [he, putN, if_pos hw, nth_take h, List.append_assoc]; rfl
        · refine Le.told [] ?_ ?_ ?_ <;> simp [-Int.not_le, -Int.not_lt, -getElem?_pos, -List.getD_eq_getElem?_getD, wr (x := (i : Int) + 1) (by omega) (by omega)]
      · refine CallJ.pure (l2Way (nth R i) a hn ha) rfl (by simp [-Int.not_le, -Int.not_lt, -getElem?_pos, -List.getD_eq_getElem?_getD]) ?_
        simp -implicitDefEqProofs -dsimp +contextual [-Int.not_le, -Int.not_lt, -getElem?_pos, -List.getD_eq_getElem?_getD, h, hw]
        refine ⟨fun h0 => ?_, fun h0 => ?_⟩
        · refine CallJ.pure (l2Stronger (nth R i) a hn ha) rfl (by simp [-Int.not_le, -Int.not_lt, -getElem?_pos, -List.getD_eq_getElem?_getD]) ?_
          simp -implicitDefEqProofs -dsimp +contextual [-Int.not_le, -Int.not_lt, -getElem?_pos, -List.getD_eq_getElem?_getD, h, hw, h0]
          refine ⟨fun hs => RLe.dd ?_, fun hs => ⟨⟨by omega, by simp [-Int.not_le, -Int.not_lt, -getElem?_pos, -List.getD_eq_getElem?_getD, maxLen]; omega⟩, RLe.pure 3 ?_⟩⟩
          · rw [he, putN, if_neg hw, if_pos h0, if_pos hs, ← nth_drop h, List.take_append_drop]
          · have e : putN a R = R.take i ++ a :: R.drop (i + 1) := by rw [he, putN, if_neg hw, if_pos h0, if_neg hs]
            simp [-Int.not_le, -Int.not_lt, -getElem?_pos, -List.getD_eq_getElem?_getD, setH, e, asD, aD]
            omega
        · have e : putN a R = R.take i ++ a :: R.drop i := by rw [he, putN, if_neg hw, if_neg h0, ← nth_drop h]
          refine ⟨hi, ⟨by omega, by omega, by simp [-Int.not_le, -Int.not_lt, -getElem?_pos, -List.getD_eq_getElem?_getD, maxLen]; omega⟩, ⟨by omega, by simp [-Int.not_le, -Int.not_lt, -getElem?_pos, -List.getD_eq_getElem?_getD, maxLen]; omega⟩, by kernel_rfl, ?_⟩
          refine ⟨hi, ⟨by omega, by simp [-Int.not_le, -Int.not_lt, -getElem?_pos, -List.getD_eq_getElem?_getD, maxLen]; omega⟩, by kernel_rfl, RLe.pure 3 ?_⟩
          simp [-Int.not_le, -Int.not_lt, -getElem?_pos, -List.getD_eq_getElem?_getD, setH, e, asD_append, asD_cons, aD]
          exact ⟨by omega, by rw [List.take_of_length_le (by simp [-Int.not_le, -Int.not_lt, -getElem?_pos, -List.getD_eq_getElem?_getD])]⟩
    · have e : putN a R = R.take i ++ a :: R.drop i := by rw [he, drop_nil (by omega)]; rfl
      refine ⟨hi, ⟨by omega, by omega, by simp [-Int.not_le, -Int.not_lt, -getElem?_pos, -List.getD_eq_getElem?_getD, maxLen]; omega⟩, ⟨by omega, by simp [-Int.not_le, -Int.not_lt, -getElem?_pos, -List.getD_eq_getElem?_getD, maxLen]; omega⟩, by kernel_rfl, ?_⟩
      refine ⟨hi, ⟨by omega, by simp [-Int.not_le, -Int.not_lt, -getElem?_pos, -List.getD_eq_getElem?_getD, maxLen]; omega⟩, by kernel_rfl, RLe.pure 3 ?_⟩
      simp [-Int.not_le, -Int.not_lt, -getElem?_pos, -List.getD_eq_getElem?_getD, setH, e, asD_append, asD_cons, aD]
      exact ⟨by omega, by rw [List.take_of_length_le (by simp [-Int.not_le, -Int.not_lt, -getElem?_pos, -List.getD_eq_getElem?_getD])]⟩
end Go.Proofs.YtjknjekemolndaaGreat.ZL
namespace Go.Proofs.YtjknjekemolndaaGreat.ZL
open Go Go.Proofs.YtjknjekemolndaaGreat.Abs Go.Proofs.YtjknjekemolndaaGreat.Abs.Pl Go.RowKit Go.Proofs
set_option linter.unusedVariables false
set_option linter.unusedSimpArgs false
theorem badA_tru (a : At) : badA a = (decide (gcdL a.1 = 0) && !truA a) := by simp [-Int.not_le, -Int.not_lt, -getElem?_pos, -List.getD_eq_getElem?_getD, badA, truA]
def allOk (d : Int) (L : List At) : Prop := ∀ x ∈ L, okA d x
def nrmGo (d : Int) (L acc : List At) : List At := if L.any badA then [noneA d] else (L.filter hasV).foldl (fun acc a => putN a acc) acc
theorem nrm_go (d : Int) (L : List At) : nrm d L = nrmGo d L [] := rfl
theorem l3Normal (d : Int) (hd : 0 ≤ d ∧ d ≤ 4) (L : List At) (h100 : L.length ≤ 100000) (hL : ∀ a ∈ L, okA d a) : Cn Tryz.prog 82 [I d, As L] (C1 d (nrm d L)) hemp := by
  refine Cn.of [] mixed Tryz.func82 rfl Tryz.call82 (by kernel_rfl) rfl ?_
  simp -implicitDefEqProofs -dsimp +contextual [-Int.not_le, -Int.not_lt, -getElem?_pos, -List.getD_eq_getElem?_getD, Tryz.f82]
  refine WP.loop mixed [] (fun p : Nat × List At => ⟨tl [(0, I d), (1, As L), (4, .ptr (0, 0) 0), (5, .ptr (3, 0) 0), (6, I p.1)], hl [((0, 0), .box [I 0, .nil]), ((3, 0), .box [I d, As p.2])], 4⟩)
    (fun p => p.1 ≤ L.length ∧ p.2.length ≤ p.1 ∧ allOk d p.2 ∧ nrm d L = nrmGo d (L.drop p.1) p.2) (fun p => L.length - p.1) (0, []) (by kernel_rfl) ?_ ?_ ?_
  · refine Le.told [] ?_ ?_ ?_ <;> simp [-Int.not_le, -Int.not_lt, -getElem?_pos, -List.getD_eq_getElem?_getD, asD, setH]
  · exact ⟨Nat.zero_le _, Nat.le_refl _, fun x hx => by simp [-Int.not_le, -Int.not_lt, -getElem?_pos, -List.getD_eq_getElem?_getD] at hx, nrm_go d L⟩
  · rintro ⟨i, acc⟩ ⟨hi, hac, hacc, he⟩
    simp only at hi hac hacc he
    simp -implicitDefEqProofs -dsimp +contextual [-Int.not_le, -Int.not_lt, -getElem?_pos, -List.getD_eq_getElem?_getD]
    refine ⟨fun h => ?_, fun h => ?_⟩
    · have hn := hL _ (nth_mem h)
      have hu := okA.nu hn
      rw [nth_drop h] at he
      refine CallJ.pure (l2Constant (nth L i) hu.1) rfl (by simp [-Int.not_le, -Int.not_lt, -getElem?_pos, -List.getD_eq_getElem?_getD]) ?_
      simp -implicitDefEqProofs -dsimp +contextual [-Int.not_le, -Int.not_lt, -getElem?_pos, -List.getD_eq_getElem?_getD, h]
      refine ⟨fun hg => ?_, fun hg => ?_⟩
      · refine CallJ.pure (l2Truth (nth L i)) rfl (by simp [-Int.not_le, -Int.not_lt, -getElem?_pos, -List.getD_eq_getElem?_getD]) ?_
        simp -implicitDefEqProofs -dsimp +contextual [-Int.not_le, -Int.not_lt, -getElem?_pos, -List.getD_eq_getElem?_getD, h, hg]
        refine ⟨fun ht => ?_, fun ht => ?_⟩
        · refine ⟨i + 1, acc, ⟨h, by omega, hacc, ?_⟩, by omega, ?_⟩
          · have hb : badA (nth L i) = false := by rw [badA_tru, ht]; simp [-Int.not_le, -Int.not_lt, -getElem?_pos, -List.getD_eq_getElem?_getD]
            have hv : hasV (nth L i) = false := by rw [hasV, decide_eq_true hg]; rfl
            rw [he, nrmGo, nrmGo, List.any_cons, List.filter_cons_of_neg (by rw [hv]; simp [-Int.not_le, -Int.not_lt, -getElem?_pos, -List.getD_eq_getElem?_getD]), hb, Bool.false_or]
          · refine Le.told [] ?_ ?_ ?_ <;> simp [-Int.not_le, -Int.not_lt, -getElem?_pos, -List.getD_eq_getElem?_getD, wr (x := (i : Int) + 1) (by omega) (by omega)]
        · refine CallJ.pure (l3None d hd) rfl (by simp [-Int.not_le, -Int.not_lt, -getElem?_pos, -List.getD_eq_getElem?_getD]) ?_
          simp -implicitDefEqProofs -dsimp +contextual [-Int.not_le, -Int.not_lt, -getElem?_pos, -List.getD_eq_getElem?_getD, h, hg]
          have e : nrm d L = [noneA d] := by rw [he, nrmGo, List.any_cons, badA_tru, ht]; simp [-Int.not_le, -Int.not_lt, -getElem?_pos, -List.getD_eq_getElem?_getD, hg]
          refine RLe.pure 3 ?_
          simp [-Int.not_le, -Int.not_lt, -getElem?_pos, -List.getD_eq_getElem?_getD, e]
      · refine CallJ.pure (l3Atom (nth L i) hu.1) rfl (by simp [-Int.not_le, -Int.not_lt, -getElem?_pos, -List.getD_eq_getElem?_getD]) ?_
        simp -implicitDefEqProofs -dsimp +contextual [-Int.not_le, -Int.not_lt, -getElem?_pos, -List.getD_eq_getElem?_getD, h, hg]
        refine CallJ.pure (l3Put acc (nth L i) (fun x hx => okA.nu (hacc x hx)) hu (by omega)) rfl (by simp [-Int.not_le, -Int.not_lt, -getElem?_pos, -List.getD_eq_getElem?_getD]) ?_
        simp -implicitDefEqProofs -dsimp +contextual [-Int.not_le, -Int.not_lt, -getElem?_pos, -List.getD_eq_getElem?_getD, h, hg]
        refine ⟨i + 1, putN (nth L i) acc, ⟨h, ?_, ?_, ?_⟩, by omega, ?_⟩
        · have := putN_len (nth L i) acc; omega
        · intro x hx
          rcases putN_mem (nth L i) acc x hx with rfl | hx
          · exact hn
          · exact hacc x hx
        · have hb : badA (nth L i) = false := by rw [badA_tru, decide_eq_false hg]; rfl
          have hv : hasV (nth L i) = true := by rw [hasV, decide_eq_false hg]; rfl
          rw [he, nrmGo, nrmGo, List.any_cons, List.filter_cons_of_pos hv, hb, Bool.false_or]
          rfl
        · refine Le.told [] ?_ ?_ ?_ <;> simp [-Int.not_le, -Int.not_lt, -getElem?_pos, -List.getD_eq_getElem?_getD, setH, wr (x := (i : Int) + 1) (by omega) (by omega)]
    · have e : nrm d L = acc := by rw [he, drop_nil (by omega)]; rfl
      refine RLe.pure 3 ?_
      simp [-Int.not_le, -Int.not_lt, -getElem?_pos, -List.getD_eq_getElem?_getD, e]
end Go.Proofs.YtjknjekemolndaaGreat.ZL
namespace Go.Proofs.YtjknjekemolndaaGreat.ZL
open Go Go.Proofs.YtjknjekemolndaaGreat.Abs Go.Proofs.YtjknjekemolndaaGreat.Abs.Pl Go.RowKit Go.Proofs
set_option linter.unusedVariables false
set_option linter.unusedSimpArgs false
theorem MixAtoms (a : At) (p : Int) (b : At) (q : Int) : Cn Tryz.prog 100 [A1 a, I p, A1 b, I q] (A2 (mixAt a.1 a.2.1 a.2.2 p b.1 b.2.1 b.2.2 q)) hemp := by
  refine Cn.of [] mixed Tryz.func100 rfl Tryz.call100 (by kernel_rfl) rfl ?_
  simp -implicitDefEqProofs -dsimp +contextual [-Int.not_le, -Int.not_lt, -getElem?_pos, -List.getD_eq_getElem?_getD, Tryz.f100]
  refine CallJ.pure (IsAtom a) rfl (by simp [-Int.not_le, -Int.not_lt, -getElem?_pos, -List.getD_eq_getElem?_getD]) ?_
  simp -implicitDefEqProofs -dsimp +contextual [-Int.not_le, -Int.not_lt, -getElem?_pos, -List.getD_eq_getElem?_getD]
  refine ⟨fun ha => ?_, fun ha => RLe.pure 3 (by simp [-Int.not_le, -Int.not_lt, -getElem?_pos, -List.getD_eq_getElem?_getD, mixAt, ha, noAt, setH])⟩
  refine CallJ.pure (IsAtom b) rfl (by simp [-Int.not_le, -Int.not_lt, -getElem?_pos, -List.getD_eq_getElem?_getD]) ?_
  simp -implicitDefEqProofs -dsimp +contextual [-Int.not_le, -Int.not_lt, -getElem?_pos, -List.getD_eq_getElem?_getD, ha]
  refine ⟨fun hb => ?_, fun hb => RLe.pure 3 (by simp [-Int.not_le, -Int.not_lt, -getElem?_pos, -List.getD_eq_getElem?_getD, mixAt, ha, hb, noAt, setH])⟩
  refine ⟨fun hln => ?_, fun hln => RLe.pure 3 ?_⟩
  rotate_left
  · have e : mixAt a.1 a.2.1 a.2.2 p b.1 b.2.1 b.2.2 q = noAt := by
      unfold mixAt
      rw [if_neg]
      simp only [Bool.and_eq_true, decide_eq_true_eq]
      omega
    simp [-Int.not_le, -Int.not_lt, -getElem?_pos, -List.getD_eq_getElem?_getD, e, noAt, setH]
  refine CallJ.pure (l1In p _ _) rfl (by simp [-Int.not_le, -Int.not_lt, -getElem?_pos, -List.getD_eq_getElem?_getD]) ?_
  simp -implicitDefEqProofs -dsimp +contextual [-Int.not_le, -Int.not_lt, -getElem?_pos, -List.getD_eq_getElem?_getD, ha, hb, hln]
  refine ⟨fun hp => ?_, fun hp => RLe.pure 3 ?_⟩
  rotate_left
  · have e : mixAt a.1 a.2.1 a.2.2 p b.1 b.2.1 b.2.2 q = noAt := by
      unfold mixAt
      rw [if_neg]
      intro h
      simp only [Bool.and_eq_true, decide_eq_true_eq] at h
      simp only [inB, Bool.and_eq_false_iff, decide_eq_false_iff_not] at hp
      omega
    simp [-Int.not_le, -Int.not_lt, -getElem?_pos, -List.getD_eq_getElem?_getD, e, noAt, setH]
  refine CallJ.pure (l1In q _ _) rfl (by simp [-Int.not_le, -Int.not_lt, -getElem?_pos, -List.getD_eq_getElem?_getD]) ?_
  simp -implicitDefEqProofs -dsimp +contextual [-Int.not_le, -Int.not_lt, -getElem?_pos, -List.getD_eq_getElem?_getD, ha, hb, hln, hp]
  refine ⟨fun hq => ?_, fun hq => RLe.pure 3 ?_⟩
  rotate_left
  · have e : mixAt a.1 a.2.1 a.2.2 p b.1 b.2.1 b.2.2 q = noAt := by
      unfold mixAt
      rw [if_neg]
      intro h
      simp only [Bool.and_eq_true, decide_eq_true_eq] at h
      simp only [inB, Bool.and_eq_false_iff, decide_eq_false_iff_not] at hq
      omega
    simp [-Int.not_le, -Int.not_lt, -getElem?_pos, -List.getD_eq_getElem?_getD, e, noAt, setH]
  have hl' : a.1.length = b.1.length := by omega
  have pa := isAt_iff.1 ha
  have pb := isAt_iff.1 hb
  have hp' : 0 ≤ p ∧ p ≤ 400000000 := by simpa [-Int.not_le, -Int.not_lt, -getElem?_pos, -List.getD_eq_getElem?_getD, inB] using hp
  have hq' : 0 ≤ q ∧ q ≤ 400000000 := by simpa [-Int.not_le, -Int.not_lt, -getElem?_pos, -List.getD_eq_getElem?_getD, inB] using hq
  have mul : ∀ {x y : Int}, (0 ≤ x ∧ x ≤ 400000000) → isNum y = true → IntKind.wrap .i64 (x * y) = x * y ∧ (-160000000000000000 ≤ x * y ∧ x * y ≤ 160000000000000000) := fun {x y} h1 h2 => by
    have := mul_bd (a := x) ⟨by omega, h1.2⟩ (isNum_iff.1 h2)
    exact ⟨wr (by omega) (by omega), this⟩
  refine WP.loopF mixed [] (fun i : Nat => ⟨tl [(1, I p), (3, I q), (4, .ptr (0, 0) 0), (6, .ptr (1, 0) 0), (8, .ptr (2, 0) 0), (10, .ref (34, 0) i), (11, I i)], hl [((0, 0), .box (aV a)), ((1, 0), .box (aV b)), ((2, 0), .box [.nil, I 0, B false]), ((34, 0), .row 3 i (dl ((mixL p (a.1.take i) q (b.1.take i)).map (D.int .i64))))], 35⟩) (fun i => i ≤ a.1.length) (fun i => a.1.length - i) 0 (by kernel_rfl) ?_ ?_ ?_
  · refine Le.trans (Le.nil 10 3 (by simp [-Int.not_le, -Int.not_lt, -getElem?_pos, -List.getD_eq_getElem?_getD])) (Le.told [] ?_ ?_ ?_) <;> simp [-Int.not_le, -Int.not_lt, -getElem?_pos, -List.getD_eq_getElem?_getD, setH, mixL]
  · simp [-Int.not_le, -Int.not_lt, -getElem?_pos, -List.getD_eq_getElem?_getD]
  · intro i hi
    by_cases h : i < a.1.length
    · have h2 : i < b.1.length := by omega
      refine ⟨_, Le.refl _ _ _, ?_⟩
      simp -implicitDefEqProofs -dsimp +contextual [-Int.not_le, -Int.not_lt, -getElem?_pos, -List.getD_eq_getElem?_getD, h, h2]
      obtain ⟨e1, e2⟩ := mul hp' (pa.2.2.1 _ (nth_mem h))
      obtain ⟨e3, e4⟩ := mul hq' (pb.2.2.1 _ (nth_mem h2))
      rw [e1, e3, wr (x := p * nth a.1 i + q * nth b.1 i) (by omega) (by omega)]
      refine ⟨⟨by omega, by simp [-Int.not_le, -Int.not_lt, -getElem?_pos, -List.getD_eq_getElem?_getD, maxLen]; omega⟩, by kernel_rfl, i + 1, h, by omega, ?_⟩
      rw [wr (by omega) (by omega)]
      refine Le.told [((34, 0), (57, 0))] ?_ ?_ ?_ <;> simp [-Int.not_le, -Int.not_lt, -getElem?_pos, -List.getD_eq_getElem?_getD]
      rw [nth_take h, nth_take h2, mixL, mixL, List.zipWith_append (by simp [-Int.not_le, -Int.not_lt, -getElem?_pos, -List.getD_eq_getElem?_getD]; omega)]
      simp [-Int.not_le, -Int.not_lt, -getElem?_pos, -List.getD_eq_getElem?_getD]
    · obtain rfl : i = a.1.length := by omega
      have hT : b.1.take a.1.length = b.1 := by rw [hl', List.take_length]
      refine ⟨⟨tl [(1, I p), (3, I q), (4, .ptr (0, 0) 0), (6, .ptr (1, 0) 0), (8, .ptr (2, 0) 0), (10, .ref (34, 0) a.1.length), (11, I a.1.length)], hl [((0, 0), .box (aV a)), ((1, 0), .box (aV b)), ((2, 0), .box [.nil, I 0, B false]), ((34, 0), .fz a.1.length ((mixL p a.1 q b.1).map (D.int .i64)))], 35⟩, ?_, ?_⟩
      · refine Le.told [] ?_ ?_ ?_ <;> simp [-Int.not_le, -Int.not_lt, -getElem?_pos, -List.getD_eq_getElem?_getD, hT]
      simp -implicitDefEqProofs -dsimp +contextual [-Int.not_le, -Int.not_lt, -getElem?_pos, -List.getD_eq_getElem?_getD, h]
      obtain ⟨e1, e2⟩ := mul hp' pa.2.1
      obtain ⟨e3, e4⟩ := mul hq' pb.2.1
      have e5 : IntKind.wrap .i64 (p * a.2.1 + q * b.2.1) = p * a.2.1 + q * b.2.1 := wr (by omega) (by omega)
      have hT2 : b.1.take a.1.length = b.1 := by rw [hl', List.take_length]
      have hT3 : (mixL p a.1 q b.1).length = a.1.length := by simp [-Int.not_le, -Int.not_lt, -getElem?_pos, -List.getD_eq_getElem?_getD, mixL, hl']
      have hTl := hT3.symm
      have h20 : (mixL p a.1 q b.1).length ≤ 1048576 := by omega
      have hmm : ∀ y ∈ mixL p a.1 q b.1, -9223372036854775807 ≤ y ∧ y ≤ 9223372036854775807 := by
        intro y hy
        obtain ⟨k, hk, rfl⟩ := List.getElem_of_mem hy
        simp only [mixL, List.getElem_zipWith]
        simp [-Int.not_le, -Int.not_lt, -getElem?_pos, -List.getD_eq_getElem?_getD, mixL] at hk
        have := (mul hp' (pa.2.2.1 a.1[k] (by simp [-Int.not_le, -Int.not_lt, -getElem?_pos, -List.getD_eq_getElem?_getD]))).2
        have := (mul hq' (pb.2.2.1 b.1[k] (by simp [-Int.not_le, -Int.not_lt, -getElem?_pos, -List.getD_eq_getElem?_getD]))).2
        omega
      have ec : mixAt a.1 a.2.1 a.2.2 p b.1 b.2.1 b.2.2 q = mkAt (mixL p a.1 q b.1) (p * a.2.1 + q * b.2.1) (a.2.2 && decide (0 < p) || b.2.2 && decide (0 < q)) := by
        unfold mixAt
        rw [if_pos]
        simp [-Int.not_le, -Int.not_lt, -getElem?_pos, -List.getD_eq_getElem?_getD, ha, hb, hl', hp', hq']
      refine ⟨fun hs => ⟨fun h0 => ?_, fun h0 => ⟨fun ht => ?_, fun ht => ?_⟩⟩, fun hs => ⟨fun ht => ?_, fun ht => ?_⟩⟩
      · refine CallJ.pure (ks := [(34, 0)]) (l2Atom (mixL p a.1 q b.1) (p * a.2.1 + q * b.2.1) (true) h20 hmm (by omega)) (by simp [-Int.not_le, -Int.not_lt, -getElem?_pos, -List.getD_eq_getElem?_getD, hT2, hT3, e1, e3, e5]) (by simp [-Int.not_le, -Int.not_lt, -getElem?_pos, -List.getD_eq_getElem?_getD]) ?_
        simp -implicitDefEqProofs -dsimp +contextual [-Int.not_le, -Int.not_lt, -getElem?_pos, -List.getD_eq_getElem?_getD, h]
        refine RLe.pure 3 ?_
        have em : mixAt a.1 a.2.1 a.2.2 p b.1 b.2.1 b.2.2 q = mkAt (mixL p a.1 q b.1) (p * a.2.1 + q * b.2.1) (true) := by rw [ec]; congr 1; simp [-Int.not_le, -Int.not_lt, -getElem?_pos, -List.getD_eq_getElem?_getD, hs, h0]
        simp [-Int.not_le, -Int.not_lt, -getElem?_pos, -List.getD_eq_getElem?_getD, em, setH]
      · refine CallJ.pure (ks := [(34, 0)]) (l2Atom (mixL p a.1 q b.1) (p * a.2.1 + q * b.2.1) (decide (0 < q)) h20 hmm (by omega)) (by simp [-Int.not_le, -Int.not_lt, -getElem?_pos, -List.getD_eq_getElem?_getD, hT2, hT3, e1, e3, e5]) (by simp [-Int.not_le, -Int.not_lt, -getElem?_pos, -List.getD_eq_getElem?_getD]) ?_
        simp -implicitDefEqProofs -dsimp +contextual [-Int.not_le, -Int.not_lt, -getElem?_pos, -List.getD_eq_getElem?_getD, h]
        refine RLe.pure 3 ?_
        have em : mixAt a.1 a.2.1 a.2.2 p b.1 b.2.1 b.2.2 q = mkAt (mixL p a.1 q b.1) (p * a.2.1 + q * b.2.1) (decide (0 < q)) := by rw [ec]; congr 1; simp [-Int.not_le, -Int.not_lt, -getElem?_pos, -List.getD_eq_getElem?_getD, h0, ht]
        simp [-Int.not_le, -Int.not_lt, -getElem?_pos, -List.getD_eq_getElem?_getD, em, setH]
      · refine CallJ.pure (ks := [(34, 0)]) (l2Atom (mixL p a.1 q b.1) (p * a.2.1 + q * b.2.1) (false) h20 hmm (by omega)) (by simp [-Int.not_le, -Int.not_lt, -getElem?_pos, -List.getD_eq_getElem?_getD, hT2, hT3, e1, e3, e5]) (by simp [-Int.not_le, -Int.not_lt, -getElem?_pos, -List.getD_eq_getElem?_getD]) ?_
        simp -implicitDefEqProofs -dsimp +contextual [-Int.not_le, -Int.not_lt, -getElem?_pos, -List.getD_eq_getElem?_getD, h]
        refine RLe.pure 3 ?_
        have em : mixAt a.1 a.2.1 a.2.2 p b.1 b.2.1 b.2.2 q = mkAt (mixL p a.1 q b.1) (p * a.2.1 + q * b.2.1) (false) := by rw [ec]; congr 1; simp [-Int.not_le, -Int.not_lt, -getElem?_pos, -List.getD_eq_getElem?_getD, h0, ht]
        simp [-Int.not_le, -Int.not_lt, -getElem?_pos, -List.getD_eq_getElem?_getD, em, setH]
      · refine CallJ.pure (ks := [(34, 0)]) (l2Atom (mixL p a.1 q b.1) (p * a.2.1 + q * b.2.1) (decide (0 < q)) h20 hmm (by omega)) (by simp [-Int.not_le, -Int.not_lt, -getElem?_pos, -List.getD_eq_getElem?_getD, hT2, hT3, e1, e3, e5]) (by simp [-Int.not_le, -Int.not_lt, -getElem?_pos, -List.getD_eq_getElem?_getD]) ?_
        simp -implicitDefEqProofs -dsimp +contextual [-Int.not_le, -Int.not_lt, -getElem?_pos, -List.getD_eq_getElem?_getD, h]
        refine RLe.pure 3 ?_
        have em : mixAt a.1 a.2.1 a.2.2 p b.1 b.2.1 b.2.2 q = mkAt (mixL p a.1 q b.1) (p * a.2.1 + q * b.2.1) (decide (0 < q)) := by rw [ec]; congr 1; simp [-Int.not_le, -Int.not_lt, -getElem?_pos, -List.getD_eq_getElem?_getD, hs, ht]
        simp [-Int.not_le, -Int.not_lt, -getElem?_pos, -List.getD_eq_getElem?_getD, em, setH]
      · refine CallJ.pure (ks := [(34, 0)]) (l2Atom (mixL p a.1 q b.1) (p * a.2.1 + q * b.2.1) (false) h20 hmm (by omega)) (by simp [-Int.not_le, -Int.not_lt, -getElem?_pos, -List.getD_eq_getElem?_getD, hT2, hT3, e1, e3, e5]) (by simp [-Int.not_le, -Int.not_lt, -getElem?_pos, -List.getD_eq_getElem?_getD]) ?_
        simp -implicitDefEqProofs -dsimp +contextual [-Int.not_le, -Int.not_lt, -getElem?_pos, -List.getD_eq_getElem?_getD, h]
        refine RLe.pure 3 ?_
        have em : mixAt a.1 a.2.1 a.2.2 p b.1 b.2.1 b.2.2 q = mkAt (mixL p a.1 q b.1) (p * a.2.1 + q * b.2.1) (false) := by rw [ec]; congr 1; simp [-Int.not_le, -Int.not_lt, -getElem?_pos, -List.getD_eq_getElem?_getD, hs, ht]
        simp [-Int.not_le, -Int.not_lt, -getElem?_pos, -List.getD_eq_getElem?_getD, em, setH]
end Go.Proofs.YtjknjekemolndaaGreat.ZL
namespace Go.Proofs.YtjknjekemolndaaGreat.ZL
open Go Go.Proofs.YtjknjekemolndaaGreat.Abs Go.Proofs.YtjknjekemolndaaGreat.Abs.Pl Go.RowKit Go.Proofs
set_option linter.unusedVariables false
set_option linter.unusedSimpArgs false
theorem IsCell (d : Int) (L : List At) (h20 : L.length ≤ 1048576) : Cn Tryz.prog 54 [C1 d L] (B (isCe d L)) hemp := by
  refine Cn.of [] mixed Tryz.func54 rfl Tryz.call54 (by kernel_rfl) rfl ?_
  simp -implicitDefEqProofs -dsimp +contextual [-Int.not_le, -Int.not_lt, -getElem?_pos, -List.getD_eq_getElem?_getD, Tryz.f54]
  refine WP.loop mixed [] (fun i : Nat => ⟨tl [(1, .ptr (0, 0) 0), (3, I i)], hl [((0, 0), .box [I d, As L])], 3⟩) (fun i => i ≤ L.length ∧ isCe d L = ((decide (0 ≤ d) && decide (d ≤ 4)) && decide (L.length ≤ 16) && (L.drop i).all fun a => isAt a.1 a.2.1 && decide ((a.1.length : Int) = d))) (fun p => L.length - p) 0 (by kernel_rfl) ?_ ?_ ?_
  · refine Le.told [] ?_ ?_ ?_ <;> simp [-Int.not_le, -Int.not_lt, -getElem?_pos, -List.getD_eq_getElem?_getD]
  · simp [-Int.not_le, -Int.not_lt, -getElem?_pos, -List.getD_eq_getElem?_getD, isCe]
  · rintro i ⟨hi, he⟩
    simp -implicitDefEqProofs -dsimp +contextual [-Int.not_le, -Int.not_lt, -getElem?_pos, -List.getD_eq_getElem?_getD]
    refine ⟨fun h => ?_, fun h => ?_⟩
    · refine CallJ.pure (IsAtom (nth L i)) rfl (by simp [-Int.not_le, -Int.not_lt, -getElem?_pos, -List.getD_eq_getElem?_getD]) ?_
      simp -implicitDefEqProofs -dsimp +contextual [-Int.not_le, -Int.not_lt, -getElem?_pos, -List.getD_eq_getElem?_getD, h]
      rw [nth_drop h, List.all_cons] at he
      refine ⟨fun ha => ⟨fun hn => ?_, fun hn => RLe.bb ?_⟩, fun ha => RLe.bb ?_⟩
      · refine ⟨i + 1, ⟨h, ?_⟩, by omega, ?_⟩
        · rw [he, ha]; simp [-Int.not_le, -Int.not_lt, -getElem?_pos, -List.getD_eq_getElem?_getD, hn]
        · refine Le.told [] ?_ ?_ ?_ <;> simp [-Int.not_le, -Int.not_lt, -getElem?_pos, -List.getD_eq_getElem?_getD, wr (x := (i : Int) + 1) (by omega) (by omega)]
      · rw [he, ha]; simp [-Int.not_le, -Int.not_lt, -getElem?_pos, -List.getD_eq_getElem?_getD, hn]
      · rw [he, ha]; simp [-Int.not_le, -Int.not_lt, -getElem?_pos, -List.getD_eq_getElem?_getD]
    · refine CallJ.pure (l1In _ _ _) rfl (by simp [-Int.not_le, -Int.not_lt, -getElem?_pos, -List.getD_eq_getElem?_getD]) ?_
      simp -implicitDefEqProofs -dsimp +contextual [-Int.not_le, -Int.not_lt, -getElem?_pos, -List.getD_eq_getElem?_getD, h]
      rw [drop_nil (by omega)] at he
      refine ⟨fun hb => RLe.bb ?_, fun hb => RLe.bb ?_⟩
      · unfold inB at hb
        rw [he, hb]; simp [-Int.not_le, -Int.not_lt, -getElem?_pos, -List.getD_eq_getElem?_getD]; omega
      · unfold inB at hb
        rw [he, hb]; simp [-Int.not_le, -Int.not_lt, -getElem?_pos, -List.getD_eq_getElem?_getD]
end Go.Proofs.YtjknjekemolndaaGreat.ZL
namespace Go.Proofs.YtjknjekemolndaaGreat.ZL
open Go Go.Proofs.YtjknjekemolndaaGreat.Abs Go.Proofs.YtjknjekemolndaaGreat.Abs.Pl Go.RowKit Go.Proofs
set_option linter.unusedVariables false
set_option linter.unusedSimpArgs false
def cD (c : Ce) : List D := [.int .i64 c.1, .sl c.2.length (asD c.2)]
def csD (L : List Ce) : List D := L.flatMap cD
abbrev cV (c : Ce) : List V := [I c.1, As c.2]
abbrev Cs (L : List Ce) : V := .d (.sl L.length (csD L))
abbrev R1 (d : Int) (L : List Ce) : V := .agg [I d, Cs L]
theorem csD_len (L : List Ce) : (csD L).length = L.length * 2 := by induction L with
  | nil => rfl
  | cons a L ih => simp [-Int.not_le, -Int.not_lt, -getElem?_pos, -List.getD_eq_getElem?_getD, csD, cD] at *; omega
theorem csD_dropE (L : List Ce) : ∀ i, (csD L).drop (i * 2) = csD (L.drop i) := by
  induction L with
  | nil => intro i; simp [-Int.not_le, -Int.not_lt, -getElem?_pos, -List.getD_eq_getElem?_getD, csD]
  | cons a L ih =>
    intro i
    cases i with
    | zero => simp [-Int.not_le, -Int.not_lt, -getElem?_pos, -List.getD_eq_getElem?_getD, csD]
    | succ i =>
      have := ih i
      rw [show (i + 1) * 2 = 2 + i * 2 by omega, ← List.drop_drop]
      simpa [-Int.not_le, -Int.not_lt, -getElem?_pos, -List.getD_eq_getElem?_getD, csD, cD] using this
theorem csD_take (L : List Ce) : ∀ i, (csD L).take (i * 2) = csD (L.take i) := by
  induction L with
  | nil => intro i; simp [-Int.not_le, -Int.not_lt, -getElem?_pos, -List.getD_eq_getElem?_getD, csD]
  | cons a L ih =>
    intro i
    cases i with
    | zero => simp [-Int.not_le, -Int.not_lt, -getElem?_pos, -List.getD_eq_getElem?_getD, csD]
    | succ i =>
      have := ih i
      rw [show (i + 1) * 2 = 2 + i * 2 by omega, List.take_add]
      simp [-Int.not_le, -Int.not_lt, -getElem?_pos, -List.getD_eq_getElem?_getD, csD, cD] at this ⊢
      exact this
theorem csD_cons (a : Ce) (L : List Ce) : csD (a :: L) = cD a ++ csD L := by simp [-Int.not_le, -Int.not_lt, -getElem?_pos, -List.getD_eq_getElem?_getD, csD]
theorem csD_append (L M : List Ce) : csD (L ++ M) = csD L ++ csD M := by simp [-Int.not_le, -Int.not_lt, -getElem?_pos, -List.getD_eq_getElem?_getD, csD]
theorem csD_nth (L : List Ce) (i : Nat) (h : i < L.length) : (csD L).drop (i * 2) = cD (nth L i) ++ csD (L.drop (i + 1)) := by rw [csD_dropE, nth_drop h, csD_cons]
theorem csD_get0 (L : List Ce) (i : Nat) (h : i < L.length) : (csD L)[i * 2]? = some (.int .i64 (nth L i).1) := by
  have := csD_nth L i h
  have e : (csD L)[i * 2]? = ((csD L).drop (i * 2))[0]? := by simp [-Int.not_le, -Int.not_lt, -getElem?_pos, -List.getD_eq_getElem?_getD]
  rw [e, this]; rfl
theorem csD_get1 (L : List Ce) (i : Nat) (h : i < L.length) : (csD L)[i * 2 + 1]? = some (.sl (nth L i).2.length (asD (nth L i).2)) := by
  have := csD_nth L i h
  have e : (csD L)[i * 2 + 1]? = ((csD L).drop (i * 2))[1]? := by simp [-Int.not_le, -Int.not_lt, -getElem?_pos, -List.getD_eq_getElem?_getD]
  rw [e, this]; rfl
theorem csD_cutD (L : List Ce) (i : Nat) (h : i < L.length) : (csD (L.drop i)).take 2 = cD (nth L i) := by rw [← csD_dropE, csD_nth L i h]; simp [-Int.not_le, -Int.not_lt, -getElem?_pos, -List.getD_eq_getElem?_getD, cD]
theorem dl_cD (c : Ce) : dl (cD c) = cV c := rfl
theorem csD_roomD (L : List Ce) (i : Nat) (h : i < L.length) : (i * 2 + 2 ≤ L.length * 2) = True := by simp [-Int.not_le, -Int.not_lt, -getElem?_pos, -List.getD_eq_getElem?_getD]; omega
attribute [simp] csD_get0 csD_get1 csD_cutD dl_cD csD_take csD_dropE csD_len csD_roomD
theorem IsRegion (d : Int) (L : List Ce) (h20 : L.length ≤ 1048576) (hc : ∀ c ∈ L, c.2.length ≤ 1048576) : Cn Tryz.prog 69 [R1 d L] (B (isRe d L)) hemp := by
  refine Cn.of [] mixed Tryz.func69 rfl Tryz.call69 (by kernel_rfl) rfl ?_
  simp -implicitDefEqProofs -dsimp +contextual [-Int.not_le, -Int.not_lt, -getElem?_pos, -List.getD_eq_getElem?_getD, Tryz.f69]
  refine WP.loop mixed [] (fun i : Nat => ⟨tl [(1, .ptr (0, 0) 0), (3, I i)], hl [((0, 0), .box [I d, Cs L])], 3⟩) (fun i => i ≤ L.length ∧ isRe d L = ((decide (0 ≤ d) && decide (d ≤ 4)) && decide (L.length ≤ 12) && (L.drop i).all fun c => isCe c.1 c.2 && decide (c.1 = d))) (fun p => L.length - p) 0 (by kernel_rfl) ?_ ?_ ?_
  · refine Le.told [] ?_ ?_ ?_ <;> simp [-Int.not_le, -Int.not_lt, -getElem?_pos, -List.getD_eq_getElem?_getD]
  · simp [-Int.not_le, -Int.not_lt, -getElem?_pos, -List.getD_eq_getElem?_getD, isRe]
  · rintro i ⟨hi, he⟩
    simp -implicitDefEqProofs -dsimp +contextual [-Int.not_le, -Int.not_lt, -getElem?_pos, -List.getD_eq_getElem?_getD]
    refine ⟨fun h => ?_, fun h => ?_⟩
    · refine CallJ.pure (IsCell (nth L i).1 (nth L i).2 (hc _ (nth_mem h))) rfl (by simp [-Int.not_le, -Int.not_lt, -getElem?_pos, -List.getD_eq_getElem?_getD]) ?_
      simp -implicitDefEqProofs -dsimp +contextual [-Int.not_le, -Int.not_lt, -getElem?_pos, -List.getD_eq_getElem?_getD, h]
      rw [nth_drop h, List.all_cons] at he
      refine ⟨fun ha => ⟨fun hn => ?_, fun hn => RLe.bb ?_⟩, fun ha => RLe.bb ?_⟩
      · refine ⟨i + 1, ⟨h, ?_⟩, by omega, ?_⟩
        · rw [he, ha]; simp [-Int.not_le, -Int.not_lt, -getElem?_pos, -List.getD_eq_getElem?_getD, hn]
        · refine Le.told [] ?_ ?_ ?_ <;> simp [-Int.not_le, -Int.not_lt, -getElem?_pos, -List.getD_eq_getElem?_getD, wr (x := (i : Int) + 1) (by omega) (by omega)]
      · rw [he, ha]; simp [-Int.not_le, -Int.not_lt, -getElem?_pos, -List.getD_eq_getElem?_getD, hn]
      · rw [he, ha]; simp [-Int.not_le, -Int.not_lt, -getElem?_pos, -List.getD_eq_getElem?_getD]
    · refine CallJ.pure (l1In _ _ _) rfl (by simp [-Int.not_le, -Int.not_lt, -getElem?_pos, -List.getD_eq_getElem?_getD]) ?_
      simp -implicitDefEqProofs -dsimp +contextual [-Int.not_le, -Int.not_lt, -getElem?_pos, -List.getD_eq_getElem?_getD, h]
      rw [drop_nil (by omega)] at he
      refine ⟨fun hb => RLe.bb ?_, fun hb => RLe.bb ?_⟩
      · unfold inB at hb
        rw [he, hb]; simp [-Int.not_le, -Int.not_lt, -getElem?_pos, -List.getD_eq_getElem?_getD]; omega
      · unfold inB at hb
        rw [he, hb]; simp [-Int.not_le, -Int.not_lt, -getElem?_pos, -List.getD_eq_getElem?_getD]
end Go.Proofs.YtjknjekemolndaaGreat.ZL
namespace Go.Proofs.YtjknjekemolndaaGreat.ZL
open Go Go.Proofs.YtjknjekemolndaaGreat.Abs Go.Proofs.YtjknjekemolndaaGreat.Abs.Pl Go.RowKit Go.Proofs
set_option linter.unusedVariables false
set_option linter.unusedSimpArgs false
abbrev D2 (r : Int × List At × Bool) : V := .tup [C1 r.1 r.2.1, B r.2.2]
set_option maxRecDepth 100000 in
theorem l3Drop (d : Int) (hd : 0 ≤ d ∧ d ≤ 4) (v : Nat) (L : List At) (h16 : L.length ≤ 16) (hL : allOk d L) (hv : (v : Int) < d) : Cn Tryz.prog 56 [C1 d L, I v] (D2 (dropC d v L)) hemp := by
  refine Cn.of [] mixed Tryz.func56 rfl Tryz.call56 (by kernel_rfl) rfl ?_
  simp -implicitDefEqProofs -dsimp +contextual [-Int.not_le, -Int.not_lt, -getElem?_pos, -List.getD_eq_getElem?_getD, Tryz.f56]
  refine WP.loop mixed [] (fun i : Nat => ⟨tl [(1, I v), (2, .ptr (0, 0) 0), (4, .ptr (1, 0) 0), (6, .ref (6, 0) ((L.take i).filter (free v)).length), (7, I i)], hl [((0, 0), .box [I d, As L]), ((1, 0), .box [I 0, .nil]), ((6, 0), .row 66 ((L.take i).filter (free v)).length (dl (asD ((L.take i).filter (free v)))))], 7⟩) (fun i => i ≤ L.length) (fun i => L.length - i) 0 (by kernel_rfl) ?_ ?_ ?_
  · refine Le.trans (Le.nil 6 66 (by simp [-Int.not_le, -Int.not_lt, -getElem?_pos, -List.getD_eq_getElem?_getD])) (Le.told [] ?_ ?_ ?_) <;> simp [-Int.not_le, -Int.not_lt, -getElem?_pos, -List.getD_eq_getElem?_getD, setH, asD]
  · simp [-Int.not_le, -Int.not_lt, -getElem?_pos, -List.getD_eq_getElem?_getD]
  · intro i hi
    by_cases h : i < L.length
    · have hn := hL _ (nth_mem h)
      have hvl : v < (nth L i).1.length := by have := hn.2; omega
      simp -implicitDefEqProofs -dsimp +contextual [-Int.not_le, -Int.not_lt, -getElem?_pos, -List.getD_eq_getElem?_getD, h, hvl]
      have fl := List.length_filter_le (free v) (L.take i)
      have fl2 : (L.take i).length ≤ i := by simp [-Int.not_le, -Int.not_lt, -getElem?_pos, -List.getD_eq_getElem?_getD]; omega
      refine ⟨fun hz => ⟨⟨by omega, by simp [-Int.not_le, -Int.not_lt, -getElem?_pos, -List.getD_eq_getElem?_getD, maxLen]; omega⟩, i + 1, h, by omega, ?_⟩, fun hz => ⟨i + 1, h, by omega, ?_⟩⟩
      · have hf : free v (nth L i) = true := decide_eq_true hz
        have e : (L.take (i + 1)).filter (free v) = (L.take i).filter (free v) ++ [nth L i] := by rw [nth_take h, List.filter_append, List.filter_cons_of_pos hf]; rfl
        rw [wr (by omega) (by omega)]
        refine Le.told [((6, 0), (29, 0))] ?_ ?_ ?_ <;> simp [-Int.not_le, -Int.not_lt, -getElem?_pos, -List.getD_eq_getElem?_getD, e, asD_append, asD_one, aD]
      · have hf : ¬ free v (nth L i) = true := fun e => hz (of_decide_eq_true e)
        have e : (L.take (i + 1)).filter (free v) = (L.take i).filter (free v) := by rw [nth_take h, List.filter_append, List.filter_cons_of_neg hf]; simp [-Int.not_le, -Int.not_lt, -getElem?_pos, -List.getD_eq_getElem?_getD]
        rw [wr (by omega) (by omega)]
        refine Le.told [] ?_ ?_ ?_ <;> simp [-Int.not_le, -Int.not_lt, -getElem?_pos, -List.getD_eq_getElem?_getD, e]
    · obtain rfl : i = L.length := by omega
      simp -implicitDefEqProofs -dsimp +contextual [-Int.not_le, -Int.not_lt, -getElem?_pos, -List.getD_eq_getElem?_getD, h]
      refine WP.loopF mixed [] (fun p : Nat × List At => ⟨tl [(1, I v), (2, .ptr (0, 0) 0), (4, .ptr (1, 0) 0), (6, .ref (6, 0) p.2.length), (8, I p.1)], hl [((0, 0), .box [I d, As L]), ((1, 0), .box [I 0, .nil]), ((6, 0), .row 66 p.2.length (dl (asD p.2)))], 7⟩)
        (fun p => p.1 ≤ L.length ∧ allOk d p.2 ∧ p.2.length ≤ 16 + 16 * p.1 ∧ dropGo v L L (L.filter (free v)) = dropGo v L (L.drop p.1) p.2) (fun p => L.length - p.1) (0, L.filter (free v)) (by kernel_rfl) ?_ ?_ ?_
      · refine Le.told [] ?_ ?_ ?_ <;> simp [-Int.not_le, -Int.not_lt, -getElem?_pos, -List.getD_eq_getElem?_getD]
      · have := List.length_filter_le (free v) L
        exact ⟨Nat.zero_le _, fun x hx => hL x (List.mem_filter.1 hx).1, by simp only; omega, rfl⟩
      · rintro ⟨i, acc⟩ ⟨hi, hac, hlen, he⟩
        simp only at hi hac hlen he
        by_cases h : i < L.length
        · refine ⟨_, Le.refl _ _ _, ?_⟩
          have hn := hL _ (nth_mem h)
          have hvl : v < (nth L i).1.length := by have := hn.2; omega
          simp -implicitDefEqProofs -dsimp +contextual [-Int.not_le, -Int.not_lt, -getElem?_pos, -List.getD_eq_getElem?_getD, h, hvl]
          refine WP.loop mixed [] (fun p : Nat × List At => ⟨tl [(1, I v), (2, .ptr (0, 0) 0), (4, .ptr (1, 0) 0), (6, .ref (6, 0) p.2.length), (8, I i), (9, I p.1)], hl [((0, 0), .box [I d, As L]), ((1, 0), .box [I 0, .nil]), ((6, 0), .row 66 p.2.length (dl (asD p.2)))], 7⟩)
            (fun p => p.1 ≤ L.length ∧ allOk d p.2 ∧ p.2.length ≤ acc.length + p.1 ∧ dropGo v L (L.drop i) acc = (if (nth L i).1.getD v 0 ≤ 0 then dropGo v L (L.drop (i + 1)) p.2 else (mixGo v (nth L i) (L.drop p.1) p.2).bind (dropGo v L (L.drop (i + 1))))) (fun p => L.length - p.1) (0, acc) (by kernel_rfl) ?_ ?_ ?_
          · refine Le.told [] ?_ ?_ ?_ <;> simp [-Int.not_le, -Int.not_lt, -getElem?_pos, -List.getD_eq_getElem?_getD]
          · refine ⟨Nat.zero_le _, hac, by simp [-Int.not_le, -Int.not_lt, -getElem?_pos, -List.getD_eq_getElem?_getD], ?_⟩
            rw [nth_drop h]; rfl
          · rintro ⟨j, acc2⟩ ⟨hj, hac2, hlen2, he2⟩
            simp only at hj hac2 hlen2 he2
            by_cases h2 : j < L.length
            · have hm := hL _ (nth_mem h2)
              have hvm : v < (nth L j).1.length := by have := hm.2; omega
              simp -implicitDefEqProofs -dsimp +contextual [-Int.not_le, -Int.not_lt, -getElem?_pos, -List.getD_eq_getElem?_getD, h, hvl, h2, hvm]
              refine ⟨fun hx => ⟨j + 1, acc2, ⟨h2, hac2, by omega, ?_⟩, by omega, ?_⟩, fun hx => ⟨fun hy => ⟨j + 1, acc2, ⟨h2, hac2, by omega, ?_⟩, by omega, ?_⟩, fun hy => ?_⟩⟩
              · have hx' : (nth L i).1.getD v 0 ≤ 0 := hx
                rw [he2, if_pos hx', if_pos hx']
              · rw [wr (by omega) (by omega)]
                refine Le.told [] ?_ ?_ ?_ <;> simp [-Int.not_le, -Int.not_lt, -getElem?_pos, -List.getD_eq_getElem?_getD]
              · have hx' : ¬ (nth L i).1.getD v 0 ≤ 0 := hx
                have hy' : 0 ≤ (nth L j).1.getD v 0 := hy
                rw [he2, if_neg hx', if_neg hx', nth_drop h2, mixGo, if_pos hy']
              · rw [wr (by omega) (by omega)]
                refine Le.told [] ?_ ?_ ?_ <;> simp [-Int.not_le, -Int.not_lt, -getElem?_pos, -List.getD_eq_getElem?_getD]
              · have ci : nth (nth L i).1 v = (nth L i).1.getD v 0 := rfl
                have cj : nth (nth L j).1 v = (nth L j).1.getD v 0 := rfl
                have bj := coef_bd hm v
                have bi := coef_bd hn v
                rw [ci, cj, wr (by omega) (by omega)]
                refine CallJ.pure (MixAtoms (nth L i) (-(nth L j).1.getD v 0) (nth L j) ((nth L i).1.getD v 0)) rfl (by simp [-Int.not_le, -Int.not_lt, -getElem?_pos, -List.getD_eq_getElem?_getD]) ?_
                simp -implicitDefEqProofs -dsimp +contextual [-Int.not_le, -Int.not_lt, -getElem?_pos, -List.getD_eq_getElem?_getD]
                have hx' : ¬ (nth L i).1.getD v 0 ≤ 0 := hx
                have hy' : ¬ 0 ≤ (nth L j).1.getD v 0 := hy
                rw [if_neg hx', nth_drop h2, mixGo, if_neg hy'] at he2
                rw [he2]
                have hok : (mixAt (nth L i).1 (nth L i).2.1 (nth L i).2.2 (-(nth L j).1.getD v 0) (nth L j).1 (nth L j).2.1 (nth L j).2.2 ((nth L i).1.getD v 0)).2.2.2 = true → _ := mixAt_ok hn hm
                generalize mixAt (nth L i).1 (nth L i).2.1 (nth L i).2.2 (-(nth L j).1.getD v 0) (nth L j).1 (nth L j).2.1 (nth L j).2.2 ((nth L i).1.getD v 0) = r at hok he2 ⊢
                obtain ⟨rc, rk, rs, ro⟩ := r
                simp only at hok he2 ⊢
                refine ⟨fun hf => ?_, fun ht => ?_⟩
                · have ho := hok hf
                  refine ⟨⟨by omega, by simp [-Int.not_le, -Int.not_lt, -getElem?_pos, -List.getD_eq_getElem?_getD, maxLen]; omega⟩, j + 1, acc2 ++ [(rc, rk, rs)], ⟨h2, ?_, by simp [-Int.not_le, -Int.not_lt, -getElem?_pos, -List.getD_eq_getElem?_getD]; omega, ?_⟩, by omega, ?_⟩
                  · intro x hx2
                    rcases List.mem_append.1 hx2 with hx2 | hx2
                    · exact hac2 x hx2
                    · obtain rfl := List.mem_singleton.1 hx2; exact ho
                  · rw [if_pos hf, if_neg hx']
                  · rw [wr (by omega) (by omega)]
                    refine Le.told [((6, 0), (63, 0))] ?_ ?_ ?_ <;> simp [-Int.not_le, -Int.not_lt, -getElem?_pos, -List.getD_eq_getElem?_getD, asD_append, asD_one, aD]
                · have e : dropC d v L = (0, [], false) := by rw [dropC, he, he2, if_neg (by rw [ht]; simp [-Int.not_le, -Int.not_lt, -getElem?_pos, -List.getD_eq_getElem?_getD])]; rfl
                  refine RLe.pure 3 ?_
                  simp [-Int.not_le, -Int.not_lt, -getElem?_pos, -List.getD_eq_getElem?_getD, e, asD]
            · simp -implicitDefEqProofs -dsimp +contextual [-Int.not_le, -Int.not_lt, -getElem?_pos, -List.getD_eq_getElem?_getD, h2]
              rw [drop_nil (by omega : L.length ≤ j)] at he2
              refine ⟨i + 1, acc2, ⟨h, hac2, by omega, ?_⟩, by omega, ?_⟩
              · rw [he, he2]
                simp only [mixGo, Option.bind_some, ite_self]
              · rw [wr (by omega) (by omega)]
                refine Le.told [] ?_ ?_ ?_ <;> simp [-Int.not_le, -Int.not_lt, -getElem?_pos, -List.getD_eq_getElem?_getD]
        · obtain rfl : i = L.length := by omega
          rw [drop_nil (Nat.le_refl _)] at he
          have he' : dropGo v L L (L.filter (free v)) = some acc := he
          have ec : dropC d v L = limN d acc := by rw [dropC, he']
          refine ⟨⟨tl [(1, I v), (2, .ptr (0, 0) 0), (4, .ptr (1, 0) 0), (6, .ref (6, 0) acc.length), (8, I L.length)], hl [((0, 0), .box [I d, As L]), ((1, 0), .box [I 0, .nil]), ((6, 0), .fz acc.length (asD acc))], 7⟩, ?_, ?_⟩
          · refine Le.told [] ?_ ?_ ?_ <;> simp [-Int.not_le, -Int.not_lt, -getElem?_pos, -List.getD_eq_getElem?_getD]
          simp -implicitDefEqProofs -dsimp +contextual [-Int.not_le, -Int.not_lt, -getElem?_pos, -List.getD_eq_getElem?_getD, h]
          refine CallJ.pure (ks := [(6, 0)]) (l3Normal d hd acc (by omega) hac) (by simp [-Int.not_le, -Int.not_lt, -getElem?_pos, -List.getD_eq_getElem?_getD]) (by simp [-Int.not_le, -Int.not_lt, -getElem?_pos, -List.getD_eq_getElem?_getD]) ?_
          simp -implicitDefEqProofs -dsimp +contextual [-Int.not_le, -Int.not_lt, -getElem?_pos, -List.getD_eq_getElem?_getD, h]
          refine ⟨fun hb => ?_, fun hb => ?_⟩
          · refine RLe.pure 3 ?_
            rw [ec, limN, if_pos (by omega)]
            simp [-Int.not_le, -Int.not_lt, -getElem?_pos, -List.getD_eq_getElem?_getD, asD]
          · refine RLe.pure 3 ?_
            rw [ec, limN, if_neg (by omega)]
            simp [-Int.not_le, -Int.not_lt, -getElem?_pos, -List.getD_eq_getElem?_getD, asD]
end Go.Proofs.YtjknjekemolndaaGreat.ZL
namespace Go.Proofs.YtjknjekemolndaaGreat.ZL
open Go Go.Proofs.YtjknjekemolndaaGreat.Abs Go.Proofs.YtjknjekemolndaaGreat.Abs.Pl Go.RowKit Go.Proofs
set_option linter.unusedVariables false
set_option linter.unusedSimpArgs false
abbrev B2 (r : Bool × Bool) : V := .tup [B r.1, B r.2]
theorem isCe_d {d : Int} {L : List At} (h : isCe d L = true) : 0 ≤ d ∧ d ≤ 4 := (okCe.1 h).1
theorem isCe_l {d : Int} {L : List At} (h : isCe d L = true) : L.length ≤ 16 := (okCe.1 h).2.1
theorem isCe_a {d : Int} {L : List At} (h : isCe d L = true) : allOk d L := (okCe.1 h).2.2
theorem nrm_okL {d : Int} {L : List At} (hd : 0 ≤ d ∧ d ≤ 4) (h : allOk d L) : allOk d (nrm d L) := nrm_ok hd h
def elimB (d : Int) (m : Nat) (L : List At) : Bool × Bool := match elim d m L with
  | none => (false, false)
  | some R => (decide (0 < R.length), true)
theorem emptyC_go {d : Int} {L : List At} (h : isCe d L = true) : emptyC d L = elimB d d.toNat (nrm d L) := by rw [emptyC, if_pos h]; rfl
theorem IsEmptyCell (d : Int) (L : List At) (h20 : L.length ≤ 1048576) : Cn Tryz.prog 93 [C1 d L] (B2 (emptyC d L)) hemp := by
  refine Cn.of [] mixed Tryz.func93 rfl Tryz.call93 (by kernel_rfl) rfl ?_
  simp -implicitDefEqProofs -dsimp +contextual [-Int.not_le, -Int.not_lt, -getElem?_pos, -List.getD_eq_getElem?_getD, Tryz.f93]
  refine CallJ.pure (IsCell d L h20) rfl (by simp [-Int.not_le, -Int.not_lt, -getElem?_pos, -List.getD_eq_getElem?_getD]) ?_
  simp -implicitDefEqProofs -dsimp +contextual [-Int.not_le, -Int.not_lt, -getElem?_pos, -List.getD_eq_getElem?_getD]
  refine ⟨fun hc => ?_, fun hc => ?_⟩
  rotate_left
  · refine RLe.pure 3 ?_
    simp [-Int.not_le, -Int.not_lt, -getElem?_pos, -List.getD_eq_getElem?_getD, emptyC, hc]
  have hd := isCe_d hc
  have h16 := isCe_l hc
  refine CallJ.pure (l3Normal d hd L (by omega) (isCe_a hc)) rfl (by simp [-Int.not_le, -Int.not_lt, -getElem?_pos, -List.getD_eq_getElem?_getD]) ?_
  simp -implicitDefEqProofs -dsimp +contextual [-Int.not_le, -Int.not_lt, -getElem?_pos, -List.getD_eq_getElem?_getD, hc]
  refine WP.loop mixed [] (fun p : Nat × List At => ⟨tl [(1, .ptr (0, 0) 0), (4, .ptr (11, 0) 0), (5, I ((p.1 : Int) - 1))], hl [((0, 0), .box [I d, As L]), ((11, 0), .box [I d, As p.2])], 12⟩)
    (fun p => (p.1 : Int) ≤ d ∧ p.2.length ≤ 16 ∧ allOk d p.2 ∧ emptyC d L = elimB d p.1 p.2) (fun p => p.1) (d.toNat, nrm d L) (by kernel_rfl) ?_ ?_ ?_
  · rw [wr (by omega) (by omega)]
    refine Le.told [] ?_ ?_ ?_ <;> simp [-Int.not_le, -Int.not_lt, -getElem?_pos, -List.getD_eq_getElem?_getD, setH]
    omega
  · exact ⟨by simp only; omega, nrm_16 d L h16, nrm_okL hd (isCe_a hc), emptyC_go hc⟩
  · rintro ⟨m, R⟩ ⟨hm, hR, hRa, he⟩
    simp only at hm hR hRa he
    simp -implicitDefEqProofs -dsimp +contextual [-Int.not_le, -Int.not_lt, -getElem?_pos, -List.getD_eq_getElem?_getD]
    refine ⟨fun h => ?_, fun h => ?_⟩
    · obtain ⟨n, rfl⟩ : ∃ n, m = n + 1 := ⟨m - 1, by omega⟩
      have e1 : ((n + 1 : Nat) : Int) - 1 = (n : Int) := by omega
      rw [e1]
      refine CallJ.pure (l3Drop d hd n R hR hRa (by omega)) rfl (by simp [-Int.not_le, -Int.not_lt, -getElem?_pos, -List.getD_eq_getElem?_getD]) ?_
      simp -implicitDefEqProofs -dsimp +contextual [-Int.not_le, -Int.not_lt, -getElem?_pos, -List.getD_eq_getElem?_getD]
      have hok := dropC_ok hd n hR hRa
      have hel : elimB d (n + 1) R = if (dropC d n R).2.2 = true then elimB d n (dropC d n R).2.1 else (false, false) := by
        unfold elimB
        rw [elim]
        by_cases h3 : (dropC d n R).2.2 = true
        · rw [if_pos h3, if_pos h3]
        · rw [if_neg h3, if_neg h3]
      rw [hel] at he
      generalize dropC d n R = r at hok he ⊢
      obtain ⟨r1, r2, r3⟩ := r
      simp only at hok he ⊢
      refine ⟨fun hf => ?_, fun ht => ?_⟩
      · obtain ⟨rfl, h1, h2⟩ := hok hf
        rw [if_pos hf] at he
        rw [wr (by omega) (by omega)]
        refine ⟨n, r2, ⟨by omega, h1, h2, he⟩, by omega, ?_⟩
        refine Le.told [] ?_ ?_ ?_ <;> simp [-Int.not_le, -Int.not_lt, -getElem?_pos, -List.getD_eq_getElem?_getD, setH]
      · rw [if_neg (by rw [ht]; simp [-Int.not_le, -Int.not_lt, -getElem?_pos, -List.getD_eq_getElem?_getD])] at he
        refine RLe.pure 3 ?_
        simp [-Int.not_le, -Int.not_lt, -getElem?_pos, -List.getD_eq_getElem?_getD, he]
    · obtain rfl : m = 0 := by omega
      refine RLe.pure 3 ?_
      simp [-Int.not_le, -Int.not_lt, -getElem?_pos, -List.getD_eq_getElem?_getD, he, elimB, elim]
end Go.Proofs.YtjknjekemolndaaGreat.ZL
namespace Go.Proofs.YtjknjekemolndaaGreat.ZL
open Go Go.Proofs.YtjknjekemolndaaGreat.Abs Go.Proofs.YtjknjekemolndaaGreat.Abs.Pl Go.RowKit Go.Proofs
set_option linter.unusedVariables false
set_option linter.unusedSimpArgs false
end Go.Proofs.YtjknjekemolndaaGreat.ZL
namespace Go.Proofs.YtjknjekemolndaaGreat.Abs
open Go Go.RowKit
set_option linter.unusedVariables false
set_option linter.unusedSimpArgs false
section
variable {P : Program} {N : Nat} {w0 : Base} {F0 E0 fr : Nat → Prop} {T : Nat → V} {H : Store} {a : Act} {w : World} {M : Key → Option Value} {F : Nat → Prop}
theorem nodup_told {iv : List (Key × Key)} : ∀ {K : List (Key × Ent)}, (K.map fun p => invK iv p.1).Nodup → ∀ p ∈ K, ∀ q ∈ K, invK iv p.1 = invK iv q.1 → p = q
  | [], _, p, hp, _, _, _ => absurd hp (by simp)
  | x :: r, hn, p, hp, q, hq, h => by
    simp only [List.map_cons, List.nodup_cons, List.mem_map, not_exists, not_and] at hn
    rcases List.mem_cons.1 hp with hp1 | hp1 <;> rcases List.mem_cons.1 hq with hq1 | hq1
    · rw [hp1, hq1]
    · rw [hp1] at h; exact absurd h.symm (hn.1 q hq1)
    · rw [hq1] at h; exact absurd h (hn.1 p hp1)
    · exact nodup_told hn.2 p hp1 q hq1 h
theorem RLe.mk {v r : V} {Hr : Store} (inv : Key → Key) (hv : VLe H inv 1 v r) (hH : ∀ k e', Hr k = some e' → k.1 < 1 ∧ ∃ e, H (inv k) = some e ∧ ELe H inv 1 e e')
    (hi : ∀ k k' e e', Hr k = some e → Hr k' = some e' → inv k = inv k' → k = k') : RLe P H v r Hr := by
  intro M F F0 w w0 u hF hlt hR hnew hd
  let M' : Key → Option Value := fun k => if k.1 < 1 then M (inv k) else none
  let F' : Nat → Prop := fun b => F b ∧ ¬ ∃ k n c t n' c' u, Hr k = some (.fz n c) ∧ H (inv k) = some (.row t n' c') ∧ M (inv k) = some u ∧ blkOf u = some b
  have hM : ∀ k : Key, k.1 < 1 → M' k = M (inv k) := fun k hk => by show (if k.1 < 1 then M (inv k) else none) = _; rw [if_pos hk]
  refine ⟨M', F', fun b h0 => ⟨hF b h0, ?_⟩, VLe_den hR hM (fun b hb => hb.1) hv hd, hR.renamed hH hi hM (fun b => Iff.rfl), fun k e u b hk hl hu hb => ?_, fun k hk => ?_⟩
  · rintro ⟨k, n, c, t, n', c', u, hk, hrow, hu, hb⟩
    have := hnew _ _ u b hrow rfl hu hb
    have := hlt b h0
    omega
  · obtain ⟨hlt, e1, he1, hle1⟩ := hH k e hk
    rw [hM k hlt] at hu
    exact hnew _ _ u b he1 (ELe_live hle1 hl) hu hb
  · show (if k.1 < 1 then M (inv k) else none) = none
    rw [if_neg (by omega)]
theorem RLe.emp {v r : V} (hv : VLe H (fun k => k) 1 v r) : RLe P H v r hemp :=
  RLe.mk _ hv (fun k e' h => by simp [hemp] at h) (fun k k' e e' h => by simp [hemp] at h)
theorem RLe.told {v r : V} {K : List (Key × Ent)} (iv : List (Key × Key)) (hv : VLe H (invK iv) 1 v r) (hH : allP (fun p : Key × Ent => p.1.1 < 1 ∧ entIs (H (invK iv p.1)) fun e => ELe H (invK iv) 1 e p.2) K)
    (hi : (K.map fun p => invK iv p.1).Nodup) : RLe P H v r (hl K) := by
  refine RLe.mk (invK iv) hv (fun k e' hk => ?_) (fun k k' e e' hk hk' he => ?_)
  · obtain ⟨h1, h2⟩ := allP_mem hH _ (hl_mem hk)
    simp only [entIs] at h2
    cases hq : H (invK iv k) with
    | none => rw [hq] at h2; exact h2.elim
    | some e => rw [hq] at h2; exact ⟨h1, e, rfl, h2⟩
  · have := nodup_told hi _ (hl_mem hk) _ (hl_mem hk') he
    injection this
theorem Cn.res {f : Nat} {vs : List V} {r r' : V} {Hr Hr' : Store} (h : Cn P f vs r Hr) (hr : RLe P Hr r r' Hr') : Cn P f vs r' Hr' := by
  refine ⟨h.enter, fun w F args hF hden => (h.run w F args hF hden).mono ?_⟩
  rintro e w' ⟨v, M', F', rfl, hFF, hv, hR, hc, hnew, hM0⟩
  obtain ⟨M2, F2, h1, h2, h3, h4, h5⟩ := hr M' F' F w' w v hFF hF hR hnew hv
  exact ⟨v, M2, F2, rfl, h1, h2, h3, hc, h4, h5⟩
theorem Cn.freeze {f : Nat} {vs : List V} {r r' : V} {Hr : Store} (n : Nat) (h : Cn P f vs r Hr) (hr : lendT Hr n r = some r') : Cn P f vs r' hemp := h.res (RLe.pure n hr)
theorem upCall_nil (s : Nat) (H : Store) : app (upCall s (hl [])) H = H := upCall_emp s ▸ rfl
theorem upCall_cons (s j : Nat) (e : Ent) (K : List (Key × Ent)) (H : Store) : app (upCall s (hl (((0, j), e) :: K))) H = setH (s, j) (some (mapE (atS s) e)) (app (upCall s (hl K)) H) := by
  funext k
  obtain ⟨k1, k2⟩ := k
  simp only [app, upCall, setH, hl, Prod.mk.injEq]
  by_cases h1 : k1 = s
  · by_cases h2 : k2 = j
    · simp [h1, h2]
    · simp [h1, h2]
  · simp [h1]
theorem mapL_dl (g : Key → Key) (cs : List D) : mapL g (dl cs) = dl cs := mapL_d g cs
attribute [simp] upCall_nil upCall_cons mapL_dl mapE mapL mapK
theorem joinb {b : Bool} {g1 g2 : Prop} {c : Code} {Q : Exit → St → Prop} {C : St} (hW : W P N c Q C) (k1 : (∀ S, Le P N S C → W P N c Q S) → b = true → g1) (k2 : (∀ S, Le P N S C → W P N c Q S) → b = false → g2) : ifbQ b g1 g2 :=
  ⟨k1 fun S h => W.le h hW, k2 fun S h => W.le h hW⟩
theorem joinP {p : Prop} {g1 g2 : Prop} {c : Code} {Q : Exit → St → Prop} {C : St} (hW : W P N c Q C) (k1 : (∀ S, Le P N S C → W P N c Q S) → p → g1) (k2 : (∀ S, Le P N S C → W P N c Q S) → ¬ p → g2) : ifPQ p g1 g2 :=
  ⟨k1 fun S h => W.le h hW, k2 fun S h => W.le h hW⟩
mutual
def allK (p : Key → Prop) : V → Prop
  | .ref k _ => p k
  | .sub k _ _ _ => p k
  | .ptr k _ => p k
  | .adr s _ => allK p s
  | .agg c => allKs p c
  | .tup c => allKs p c
  | .fn _ c => allKs p c
  | .unk | .d _ | .nil => True
def allKs (p : Key → Prop) : List V → Prop
  | [] => True
  | v :: r => allK p v ∧ allKs p r
end
def allKE (p : Key → Prop) : Ent → Prop
  | .box c => allKs p c
  | .row _ _ c => allKs p c
  | .fz .. => True
theorem allKs_iff {p : Key → Prop} : ∀ {c : List V}, allKs p c ↔ ∀ v ∈ c, allK p v
  | [] => by simp [allKs]
  | v :: r => by simp [allKs, allKs_iff (c := r)]
mutual
theorem DenV.cong {M' : Key → Option Value} {g : Key → Key} {p : Key → Prop} (hp : ∀ k, p k → M' k = M (g k)) : ∀ {v : V} {u : Value}, allK p v → DenV M F w (Abs.mapK g v) u → DenV M' F w v u
  | .unk, u, h, hd => by unfold DenV; trivial
  | .d x, u, h, hd => by unfold Abs.mapK at hd; unfold DenV at hd ⊢; exact hd
  | .nil, u, h, hd => by unfold Abs.mapK at hd; unfold DenV at hd ⊢; exact hd
  | .ref k n, u, h, hd => by
    unfold Abs.mapK at hd; unfold DenV at hd ⊢; unfold allK at h
    exact ⟨by rw [hp k h]; exact hd.1, hd.2⟩
  | .sub k z o n, u, h, hd => by
    unfold Abs.mapK at hd; unfold DenV at hd ⊢; unfold allK at h
    obtain ⟨A0, n0, cap0, A, cap, h1, h2⟩ := hd
    exact ⟨A0, n0, cap0, A, cap, by rw [hp k h]; exact h1, h2⟩
  | .ptr k o, u, h, hd => by
    unfold Abs.mapK at hd; unfold DenV at hd ⊢; unfold allK at h
    obtain ⟨b, h1, h2⟩ := hd
    exact ⟨b, by rw [hp k h]; exact h1, h2⟩
  | .adr s o, u, h, hd => by
    unfold Abs.mapK at hd; unfold DenV at hd ⊢; unfold allK at h
    obtain ⟨b, q, n, cap, h1, h2⟩ := hd
    exact ⟨b, q, n, cap, h1, DenV.cong hp h h2⟩
  | .agg c, u, h, hd => by
    unfold Abs.mapK at hd; unfold DenV at hd ⊢; unfold allK at h
    obtain ⟨cs, h1, h2⟩ := hd
    exact ⟨cs, h1, DenVs.cong hp h h2⟩
  | .tup c, u, h, hd => by
    unfold Abs.mapK at hd; unfold DenV at hd ⊢; unfold allK at h
    obtain ⟨cs, h1, h2⟩ := hd
    exact ⟨cs, h1, DenVs.cong hp h h2⟩
  | .fn f c, u, h, hd => by
    unfold Abs.mapK at hd; unfold DenV at hd ⊢; unfold allK at h
    obtain ⟨cs, h1, h2⟩ := hd
    exact ⟨cs, h1, DenVs.cong hp h h2⟩
theorem DenVs.cong {M' : Key → Option Value} {g : Key → Key} {p : Key → Prop} (hp : ∀ k, p k → M' k = M (g k)) : ∀ {c : List V} {us : List Value}, allKs p c → DenVs M F w (Abs.mapL g c) us → DenVs M' F w c us
  | [], us, h, hd => by unfold Abs.mapL at hd; unfold DenVs at hd ⊢; exact hd
  | v :: c, us, h, hd => by
    unfold Abs.mapL at hd; unfold DenVs at hd ⊢; unfold allKs at h
    obtain ⟨u, r, h1, h2, h3⟩ := hd
    exact ⟨u, r, h1, DenV.cong hp h.1 h2, DenVs.cong hp h.2 h3⟩
end
theorem EntOk.cong {M' : Key → Option Value} {g : Key → Key} {p : Key → Prop} (hp : ∀ k, p k → M' k = M (g k)) {e : Ent} {u : Value} (h : allKE p e) (hd : EntOk P M F w (Abs.mapE g e) u) : EntOk P M' F w e u := by
  cases e with
  | box c => obtain ⟨b, cs, t, h1, h2, h3⟩ := hd; exact ⟨b, cs, t, h1, h2, h3.cong hp h⟩
  | row e n c =>
    rcases hd with ⟨xs, i, h1, h2, h3⟩ | ⟨A, h1, h2, h3⟩
    · exact .inl ⟨xs, i, h1, h2, DenVs.cong hp h h3⟩
    · refine .inr ⟨A, h1, h2, ?_⟩
      cases c with
      | nil => rfl
      | cons x r => simp [Abs.mapL] at h3
  | fz n c => exact hd
mutual
theorem mapK_id : ∀ v : V, mapK (fun k => k) v = v
  | .unk => rfl
  | .d _ => rfl
  | .nil => rfl
  | .ref _ _ => rfl
  | .sub _ _ _ _ => rfl
  | .ptr _ _ => rfl
  | .adr s o => by rw [mapK, mapK_id s]
  | .agg c => by rw [mapK, mapL_id c]
  | .tup c => by rw [mapK, mapL_id c]
  | .fn f c => by rw [mapK, mapL_id c]
theorem mapL_id : ∀ c : List V, mapL (fun k => k) c = c
  | [] => rfl
  | v :: r => by rw [mapL, mapK_id v, mapL_id r]
end
theorem mapE_id (e : Ent) : mapE (fun k => k) e = e := by cases e <;> simp [mapE, mapL_id]
def WrB (M : Key → Option Value) (Ha : Store) (b : Nat) : Prop := ∃ k e u, Ha k = some e ∧ e.live = true ∧ M k = some u ∧ blkOf u = some b
structure Cm (P : Program) (f : Nat) (A : Key → Prop) (vs : List V) (Ha : Store) (r : V) (Hr : Store) : Prop where
  enter : ∀ args w, (callFunc f args).run P w = .ok (.enter f args) w
  run : ∀ (w : World) (F : Nat → Prop) (M : Key → Option Value) (args : Array Value), (∀ b, F b → b < w.heap.size) → Real P M F w Ha → (∀ k u, M k = some u → k.1 = 0 ∧ 1 ≤ k.2) → (∀ k, A k → ∃ u, M k = some u) → DenVs M F w vs args.toList →
    Calls P f args w fun e w' => ∃ v M' F', e = .returned v ∧ (∀ b, F b → ¬ WrB M Ha b → F' b) ∧ DenV M' F' w' r v ∧ Real P M' F' w' Hr ∧ Chg (WrB M Ha) w w' ∧
      (∀ k e u b, Hr k = some e → e.live = true → M' k = some u → blkOf u = some b → WrB M Ha b ∨ w.heap.size ≤ b) ∧ (∀ k : Key, k.1 = 0 → M' k = M k) ∧ (∀ k : Key, 2 ≤ k.1 → M' k = none)
def RLm (P : Program) (A : Key → Prop) (H : Store) (v : V) (r : V) (Hr : Store) : Prop := ∀ (M0 M : Key → Option Value) (F F0 E0 : Nat → Prop) (w w0 : World) (u : Value), (∀ b, F0 b → ¬ E0 b → F b) → (∀ b, F0 b → b < w0.heap.size) → Real P M F w H →
    (∀ k e u b, H k = some e → e.live = true → M k = some u → blkOf u = some b → E0 b ∨ w0.heap.size ≤ b) → (∀ k u, M0 k = some u → M k = some u) → (∀ k, A k → ∃ u, M0 k = some u) → DenV M F w v u →
    ∃ M' F', (∀ b, F0 b → ¬ E0 b → F' b) ∧ DenV M' F' w r u ∧ Real P M' F' w Hr ∧ (∀ k e u b, Hr k = some e → e.live = true → M' k = some u → blkOf u = some b → E0 b ∨ w0.heap.size ≤ b) ∧ (∀ k : Key, k.1 = 0 → M' k = M0 k) ∧ (∀ k : Key, 2 ≤ k.1 → M' k = none)
def okKey (A : Key → Prop) (k : Key) : Prop := k.1 = 0 → A k
theorem RLm.mk {A : Key → Prop} {v r : V} {Hr : Store} (inv : Key → Key) (hid : ∀ k : Key, k.1 = 0 → inv k = k) (hv : VLe H inv 2 v r) (hr : allK (okKey A) r)
    (hH : ∀ k e', Hr k = some e' → k.1 < 2 ∧ okKey A k ∧ allKE (okKey A) e' ∧ ∃ e, H (inv k) = some e ∧ ELe H inv 2 e e')
    (hi : ∀ k k' e e', Hr k = some e → Hr k' = some e' → inv k = inv k' → k = k') : RLm P A H v r Hr := by
  intro M0 M F F0 E0 w w0 u hkeep hlt hR hreach h0 hA hd
  let M1 : Key → Option Value := fun k => if k.1 < 2 then M (inv k) else none
  let M' : Key → Option Value := fun k => if k.1 = 0 then M0 k else M1 k
  let F' : Nat → Prop := fun b => F b ∧ ¬ ∃ k n c t n' c' u, Hr k = some (.fz n c) ∧ H (inv k) = some (.row t n' c') ∧ M (inv k) = some u ∧ blkOf u = some b
  have hM : ∀ k : Key, k.1 < 2 → M1 k = M (inv k) := fun k hk => by show (if k.1 < 2 then M (inv k) else none) = _; rw [if_pos hk]
  have hag : ∀ k, okKey A k → M' k = M1 ((fun k => k) k) := fun k hk => by
    show (if k.1 = 0 then M0 k else M1 k) = M1 k
    by_cases h1 : k.1 = 0
    · obtain ⟨x, hx⟩ := hA k (hk h1)
      rw [if_pos h1, hM k (by omega), hid k h1, hx, h0 k x hx]
    · rw [if_neg h1]
  have hR1 : Real P M1 F' w Hr := hR.renamed (fun k e' h => ⟨(hH k e' h).1, (hH k e' h).2.2.2⟩) hi hM (fun b => Iff.rfl)
  refine ⟨M', F', fun b hb hn => ⟨hkeep b hb hn, ?_⟩, DenV.cong hag hr (by rw [mapK_id]; exact VLe_den hR hM (fun b hb => hb.1) hv hd), ⟨fun k e hk => ?_, fun k k' e e' u u' b hk hk' hl hl' hu hu' => ?_⟩, fun k e u b hk hl hu hb => ?_, fun k hk => ?_, fun k hk => ?_⟩
  · rintro ⟨k, n, c, t, n', c', u, hk, hrow, hu, hb2⟩
    rcases hreach _ _ u b hrow rfl hu hb2 with h1 | h1
    · exact hn h1
    · have := hlt b hb
      omega
  · obtain ⟨u, hu, hok, hF⟩ := hR1.ent k e hk
    obtain ⟨_, h1, h2, _⟩ := hH k e hk
    exact ⟨u, by rw [hag k h1]; exact hu, EntOk.cong hag h2 (by rw [mapE_id]; exact hok), hF⟩
  · obtain ⟨_, h1, _, _⟩ := hH k e hk
    obtain ⟨_, h2, _, _⟩ := hH k' e' hk'
    rw [hag k h1] at hu
    rw [hag k' h2] at hu'
    exact hR1.inj k k' e e' u u' b hk hk' hl hl' hu hu'
  · obtain ⟨hlt2, h1, _, e1, he1, hle1⟩ := hH k e hk
    rw [hag k h1] at hu
    have hu2 : M1 k = some u := hu
    rw [hM k hlt2] at hu2
    exact hreach _ _ u b he1 (ELe_live hle1 hl) hu2 hb
  · show (if k.1 = 0 then M0 k else M1 k) = _
    rw [if_pos hk]
  · show (if k.1 = 0 then M0 k else (if k.1 < 2 then M (inv k) else none)) = none
    rw [if_neg (by omega), if_neg (by omega)]
def retM (P : Program) (rs : List ResultVar) (A : Key → Prop) (r : V) (Hr : Store) : Exit → St → Prop
  | .normal, S => resS P S.T S.H rs fun vs => RLm P A S.H (oneV vs) r Hr
  | .ret, S => resS P S.T S.H rs fun vs => RLm P A S.H (oneV vs) r Hr
  | _, _ => False
theorem Cm.of {f : Nat} {fn : Func} {c : Code} {A : Key → Prop} {vs : List V} {Ha : Store} {r : V} {Hr : Store} (O : List Nat) (hm : P.follows .mixedOrders = true) (hf : P.funcs[f]? = some fn) (hb : fn.body = some c) (he : ∀ args w, (callFunc f args).run P w = .ok (.enter f args) w) (hc : codeOk fn.ntmps (rooted O) c = true)
    (hn : Nat.ble vs.length fn.ntmps = true) (hW : WP P fn.ntmps O c (retM P fn.results.toList A r Hr) ⟨argT vs, Ha, 1⟩) : Cm P f A vs Ha r Hr := by
  refine ⟨he, fun w F M0 args hF hR0 h00 hA0 hden => ?_⟩
  have hn := Nat.le_of_ble_eq_true hn
  have hal : args.size = vs.length := by rw [← hden.length]; simp
  refine calls_of_wp hf hb ?_
  let w0 : Base := { w with B0 := M0, res := h00 }
  have hinv : St.Fits P fn.ntmps w0 F (WrB M0 Ha) ⟨argT vs, Ha, 1⟩ { tmps := args ++ Array.replicate (fn.ntmps - args.size) undef, defers := [] } w := by
    refine ⟨M0, F, fun b h _ => h, hR0, fun j => ?_, fun k hk => ?_, fun k e u b h1 h2 h3 h4 => .inl ⟨k, e, u, h1, h2, h3, h4⟩, rfl, by simp; omega, Chg.refl _ w, hF, fun k u h => h⟩
    · simp only [argT, List.getD]
      cases hj : vs[j]? with
      | none => simp; unfold DenV; trivial
      | some v =>
        obtain ⟨u, hu, hd⟩ := hden.get hj
        have hjl : j < args.size := by rw [hal]; exact (List.getElem?_eq_some_iff.1 hj).1
        have hu' : args[j]? = some u := by simpa using hu
        have : (args ++ Array.replicate (fn.ntmps - args.size) undef)[j]? = some u := by rw [Array.getElem?_append_left hjl]; exact hu'
        simp only [Array.getD_eq_getD_getElem?, this, Option.getD_some]
        exact hd
    · cases hq : M0 k with
      | none => rfl
      | some u => have := (h00 k u hq).1; have hk' : 1 ≤ k.1 := hk; omega
  refine wp_mono (WP.sound hm hc hW w0 F (WrB M0 Ha) _ w hinv) ?_
  have fin : ∀ (S' : St) (a' : Act) (w' : World), resS P S'.T S'.H fn.results.toList (fun vs => RLm P A S'.H (oneV vs) r Hr) → S'.Fits P fn.ntmps w0 F (WrB M0 Ha) a' w' →
      a'.defers = [] ∧ ∃ v, (results fn a'.tmps).run P w' = .ok v w' ∧ ∃ v_1 M' F', Ending.returned v = .returned v_1 ∧ (∀ b, F b → ¬ WrB M0 Ha b → F' b) ∧ DenV M' F' w' r v_1 ∧ Real P M' F' w' Hr ∧ Chg (WrB M0 Ha) w w' ∧
        (∀ k e u b, Hr k = some e → e.live = true → M' k = some u → blkOf u = some b → WrB M0 Ha b ∨ w.heap.size ≤ b) ∧ (∀ k : Key, k.1 = 0 → M' k = M0 k) ∧ (∀ k : Key, 2 ≤ k.1 → M' k = none) := by
    rintro S' a' w' hq ⟨M, F1, hat⟩
    obtain ⟨rvs, us, hR, hd, hrun⟩ := resS_den hat hq
    obtain ⟨M', F', h1, h2, h3, h4, h5, h6⟩ := hR M0 M F1 F (WrB M0 Ha) w' w _ hat.keep hF hat.real hat.reach hat.base hA0 (oneV_den hd)
    refine ⟨hat.defers, _, ?_, _, M', F', rfl, h1, h2, h3, hat.chg, h4, h5, h6⟩
    unfold results
    have : fn.results.mapM (resF a'.tmps) =
        List.toArray <$> fn.results.toList.mapM (resF a'.tmps) := by
      rw [Array.mapM_eq_mapM_toList]
    rw [Sem.run_bind]
    have h6 := this
    refine Eq.trans (congrArg (fun x => (Sem.run P x w').andThen _) h6) ?_
    rw [Sem.run_map, hrun]
    rfl
  rintro e a' w' ⟨S', hq, hfit⟩
  cases e with
  | normal => exact fin S' a' w' hq hfit
  | ret => exact fin S' a' w' hq hfit
  | exit id => exact hq.elim
  | goto l => exact hq.elim
  | panic ch => exact hq.elim
  | outgrown => exact hq.elim
def gk (g : Nat → Key) (s : Nat) (k : Key) : Key := if k.1 = 0 then g (k.2 - 1) else (s, k.2)
def upMut (g : Nat → Key) (gi : Key → Option Nat) (s : Nat) (Hr : Store) : Key → Option (Option Ent) := fun k => if k.1 = s then (match Hr (1, k.2) with
    | some e => some (some (mapE (gk g s) e))
    | none => none)
  else match gi k with
    | some j => some ((Hr (0, j + 1)).map (mapE (gk g s)))
    | none => none
theorem CallJ.mut {nx s f : Nat} {vs vs' : List V} {A : Key → Prop} {r : V} {Ha Hr : Store} {K : Eff → Prop} (g : Nat → Key) (gi : Key → Option Nat) (ms rs : List Key) (h : Cm P f A vs' Ha r Hr)
    (hv : vs = mapL (gk g s) vs') (hvk : allKs A vs')
    (hA : ∀ k, A k → k.1 = 0 ∧ 1 ≤ k.2 ∧ (H (g (k.2 - 1))).isSome = true ∧ g (k.2 - 1) ∈ ms ++ rs)
    (hE : ∀ k e, Ha k = some e → A k ∧ H (g (k.2 - 1)) = some (mapE (gk g s) e) ∧ allKE A e ∧ gi (g (k.2 - 1)) = some (k.2 - 1))
    (hgi : ∀ k j, gi k = some j → g j = k ∧ (Ha (0, j + 1)).isSome = true ∧ k ∈ ms) (hms : ∀ k ∈ ms, (gi k).isSome = true)
    (hr0 : ∀ k e, Hr k = some e → k.1 < 2 ∧ (k.1 = 0 → (Ha k).isSome = true))
    (hrs : ∀ k ∈ ms ++ rs, (H k).isSome = true ∧ (k.1 < nx ∨ k.1 ∈ slotsL vs))
    (hk : K ⟨mapK (gk g s) r, ms ++ rs, ms, upMut g gi s Hr⟩) : CallJ P N nx s H f vs K := by
  refine ⟨_, hk, h.enter, fun k hk => ?_, fun k hk => List.mem_append_left _ hk, hrs, fun {w0 F0 E0 fr T Hc a w M F us dst} hfr hat hden hH hd => ?_⟩
  · simp only [upMut] at hk
    by_cases hks : k.1 = s
    · exact .inl hks
    · rw [if_neg hks] at hk
      right
      cases hq : gi k with
      | none => rw [hq] at hk; exact absurd rfl hk
      | some j => exact (hgi k j hq).2.2
  classical
  let M0 : Key → Option Value := fun k => if A k then M (g (k.2 - 1)) else none
  let Fc : Nat → Prop := fun b => F b ∧ b < w.heap.size
  have hM0 : ∀ k, A k → M0 k = M (gk g s k) := fun k hk => by
    show (if A k then M (g (k.2 - 1)) else none) = M (if k.1 = 0 then g (k.2 - 1) else (s, k.2))
    rw [if_pos hk, if_pos (hA k hk).1]
  have hM0n : ∀ k u, M0 k = some u → A k := fun k u hk => by
    by_cases ha : A k
    · exact ha
    · have : (if A k then M (g (k.2 - 1)) else none) = some u := hk
      rw [if_neg ha] at this; exact absurd this (by simp)
  have hHc : ∀ k, A k → Hc (g (k.2 - 1)) = H (g (k.2 - 1)) := fun k hk => hH _ (hA k hk).2.2.2
  have hpre : ∀ k, A k → ∃ u, M0 k = some u := fun k hk => by
    obtain ⟨e, he⟩ := Option.isSome_iff_exists.1 (hA k hk).2.2.1
    obtain ⟨u, hu, _⟩ := hat.real.ent _ e (by rw [hHc k hk]; exact he)
    exact ⟨u, by rw [hM0 k hk]; show M (if k.1 = 0 then g (k.2 - 1) else (s, k.2)) = _; rw [if_pos (hA k hk).1]; exact hu⟩
  have hkey : ∀ k, A k → k = (0, (k.2 - 1) + 1) := fun k hk => Prod.ext (hA k hk).1 (by have := (hA k hk).2.1; show k.2 = k.2 - 1 + 1; omega)
  have hgk0 : ∀ k, A k → gk g s k = g (k.2 - 1) := fun k hk => by show (if k.1 = 0 then g (k.2 - 1) else (s, k.2)) = _; rw [if_pos (hA k hk).1]
  have hR0 : Real P M0 Fc w Ha := by
    constructor
    · intro k e hk
      obtain ⟨h1, h2, h3, _⟩ := hE k e hk
      obtain ⟨u, hu, hok, hF⟩ := hat.real.ent _ _ ((hHc k h1).trans h2)
      refine ⟨u, by rw [hM0 k h1, hgk0 k h1]; exact hu, EntOk.cong hM0 h3 (EntOk.move (fun _ _ h => h) ⟨fun b hb => .inl hb.1, fun _ _ _ => rfl⟩ (fun _ _ _ => rfl) hok), fun hl b hb => ⟨hF (by rw [mapE_live]; exact hl) b hb, hok.blk_lt (by rw [mapE_live]; exact hl) hb⟩⟩
    · intro k k' e e' u u' b hk hk' hl hl' hu hu' hb hb'
      obtain ⟨h1, h2, _, h4⟩ := hE k e hk
      obtain ⟨h1', h2', _, h4'⟩ := hE k' e' hk'
      rw [hM0 k h1, hgk0 k h1] at hu
      rw [hM0 k' h1', hgk0 k' h1'] at hu'
      have := hat.real.inj _ _ _ _ _ _ b ((hHc k h1).trans h2) ((hHc k' h1').trans h2') (by rw [mapE_live]; exact hl) (by rw [mapE_live]; exact hl') hu hu' hb hb'
      rw [this, h4'] at h4
      rw [hkey k h1, hkey k' h1', Option.some.inj h4]
  have hwr : ∀ b, WrB M0 Ha b → ∃ k e u, A k ∧ H (g (k.2 - 1)) = some (mapE (gk g s) e) ∧ e.live = true ∧ M (g (k.2 - 1)) = some u ∧ blkOf u = some b ∧ gi (g (k.2 - 1)) = some (k.2 - 1) := by
    rintro b ⟨k, e, u, h1, h2, h3, h4⟩
    obtain ⟨k1, k2, _, k4⟩ := hE k e h1
    rw [hM0 k k1, hgk0 k k1] at h3
    exact ⟨k, e, u, k1, k2, h2, h3, h4, k4⟩
  have hwF : ∀ b, WrB M0 Ha b → F b ∧ b < w.heap.size := fun b hb => by
    obtain ⟨k, e, u, k1, k2, k3, k4, k5, _⟩ := hwr b hb
    obtain ⟨x, hx, hok, hF⟩ := hat.real.ent _ _ ((hHc k k1).trans k2)
    rw [k4] at hx; obtain rfl := Option.some.inj hx
    exact ⟨hF (by rw [mapE_live]; exact k3) b k5, hok.blk_lt (by rw [mapE_live]; exact k3) k5⟩
  refine (h.run w Fc M0 us (fun b hb => hb.2) hR0 (fun k u hk => ⟨(hA k (hM0n k u hk)).1, (hA k (hM0n k u hk)).2.1⟩) hpre (DenVs.cong hM0 hvk (by rw [← hv]; exact hden.move (fun _ _ h => h) ⟨fun b hb => .inl hb.1, fun _ _ _ => rfl⟩))).mono ?_
  rintro e w' ⟨v, M', F', rfl, hFF, hr, hR, hc, hnew, hM1, hM2'⟩
  refine ⟨v, rfl, ?_⟩
  let M2 : Key → Option Value := fun k => if k.1 = s then M' (1, k.2) else M k
  let F2 : Nat → Prop := fun b => F' b ∧ (F b ∨ w.heap.size ≤ b)
  have hfs : ∀ k : Key, k.1 = s → M k = none := fun k hk => hat.free k (by rw [hk]; exact hfr)
  have hM : ∀ k x, M k = some x → M2 k = some x := by
    intro k x hk
    show (if k.1 = s then M' (1, k.2) else M k) = some x
    rw [if_neg (fun e => by rw [hfs k e] at hk; exact absurd hk (by simp))]
    exact hk
  have hM2s : ∀ k : Key, k.1 = s → M2 k = M' (1, k.2) := fun k hk => by show (if k.1 = s then M' (1, k.2) else M k) = _; rw [if_pos hk]
  have hM2o : ∀ k : Key, k.1 ≠ s → M2 k = M k := fun k hk => by show (if k.1 = s then M' (1, k.2) else M k) = _; rw [if_neg hk]
  have hg : ∀ k x, M' k = some x → M2 (gk g s k) = some x := by
    intro k x hk
    by_cases h0 : k.1 = 0
    · rw [hM1 k h0] at hk
      have ha := hM0n k x hk
      rw [hM0 k ha] at hk
      exact hM _ _ hk
    · by_cases h1 : k.1 = 1
      · show M2 (if k.1 = 0 then g (k.2 - 1) else (s, k.2)) = some x
        rw [if_neg h0, hM2s _ rfl]
        rw [← h1]; exact hk
      · rw [hM2' k (by omega)] at hk; exact absurd hk (by simp)
  have hh : Holds F F2 w w' := ⟨fun b hb => hb.2, fun b hb hl => hc.block b (fun h => hb (hwF b h).1) hl⟩
  have hother : ∀ k e u b, gi k = none → Hc k = some e → e.live = true → M k = some u → blkOf u = some b → ¬ WrB M0 Ha b := by
    intro k e u b hgn hk hl hu hb hw
    obtain ⟨k0, e0, u0, k1, k2, k3, k4, k5, k6⟩ := hwr b hw
    have := hat.real.inj _ _ _ _ _ _ b hk ((hHc k0 k1).trans k2) hl (by rw [mapE_live]; exact k3) hu k4 hb k5
    rw [this, k6] at hgn
    exact absurd hgn (by simp)
  have hget : ∀ k e, app (upMut g gi s Hr) Hc k = some e → (∃ k0 e0, k = gk g s k0 ∧ Hr k0 = some e0 ∧ e = mapE (gk g s) e0 ∧ M2 k = M' k0 ∧ (k0.1 = 1 ∧ k.1 = s ∧ k.2 = k0.2 ∨ k0.1 = 0 ∧ k.1 ≠ s ∧ gi k = some (k0.2 - 1) ∧ 1 ≤ k0.2)) ∨ (k.1 ≠ s ∧ gi k = none ∧ Hc k = some e) := by
    intro k e hk
    simp only [app, upMut] at hk
    by_cases hks : k.1 = s
    · rw [if_pos hks] at hk
      cases h0 : Hr (1, k.2) with
      | none =>
        rw [h0] at hk
        simp only at hk
        obtain ⟨x, hx, _⟩ := hat.real.ent k e hk
        rw [hfs k hks] at hx
        exact absurd hx (by simp)
      | some e0 =>
        rw [h0] at hk
        simp only [Option.some.injEq] at hk
        refine .inl ⟨(1, k.2), e0, ?_, h0, hk.symm, hM2s k hks, .inl ⟨rfl, hks, rfl⟩⟩
        show k = (if (1 : Nat) = 0 then _ else (s, k.2))
        rw [if_neg (by omega), ← hks]
    · rw [if_neg hks] at hk
      cases hq : gi k with
      | none => rw [hq] at hk; exact .inr ⟨hks, rfl, hk⟩
      | some j =>
        rw [hq] at hk
        simp only at hk
        cases h0 : Hr (0, j + 1) with
        | none => rw [h0] at hk; exact absurd hk (by simp)
        | some e0 =>
          rw [h0] at hk
          simp only [Option.map_some, Option.some.injEq] at hk
          obtain ⟨g1, g2, _⟩ := hgi k j hq
          obtain ⟨ea, hea⟩ := Option.isSome_iff_exists.1 g2
          have ha := (hE _ _ hea).1
          refine .inl ⟨(0, j + 1), e0, ?_, h0, hk.symm, ?_, .inr ⟨rfl, hks, by simp [hq], by simp⟩⟩
          · rw [hgk0 _ ha]; exact g1.symm
          · rw [hM2o k hks, hM1 _ rfl, hM0 _ ha, hgk0 _ ha]
            show M k = M (g j)
            rw [g1]
  have hkinj : ∀ k k' k0 k0' : Key, (k0.1 = 1 ∧ k.1 = s ∧ k.2 = k0.2 ∨ k0.1 = 0 ∧ k.1 ≠ s ∧ gi k = some (k0.2 - 1) ∧ 1 ≤ k0.2) → k = gk g s k0 → k' = gk g s k0' → k0 = k0' → k = k' := fun k k' k0 k0' _ h1 h2 h3 => by rw [h1, h2, h3]
  refine hat.step (M' := M2) (F' := F2) hd hM hM2o (fun b h1 h2 => ?_) hh ⟨?_, ?_⟩ ((hr.move (fun _ _ h => h) ⟨fun b hb => .inl hb.1, fun _ _ _ => rfl⟩ : DenV M' F2 w' r v).mapK hg) hc (fun b hb => ?_) ?_
  · have hFb := hat.keep b h1 h2
    have hlt := Nat.lt_of_lt_of_le (hat.lt0 b h1) hat.chg.size
    refine ⟨hFF b ⟨hFb, hlt⟩ fun hw => ?_, .inl hFb⟩
    obtain ⟨k0, e0, u0, k1, k2, k3, k4, k5, _⟩ := hwr b hw
    rcases hat.reach _ _ _ b ((hHc k0 k1).trans k2) (by rw [mapE_live]; exact k3) k4 k5 with h3 | h3
    · exact h2 h3
    · have := hat.lt0 b h1; omega
  · intro k e hk
    rcases hget k e hk with ⟨k0, e0, rfl, h0, rfl, hm, _⟩ | ⟨hks, hgn, hk⟩
    · obtain ⟨x, hx, hok, hF⟩ := hR.ent _ _ h0
      refine ⟨x, hm.trans hx, (EntOk.move (fun _ _ h => h) (⟨fun b hb => .inl hb.1, fun _ _ _ => rfl⟩ : Holds F' F2 w' w') (fun _ _ _ => rfl) hok).mapE hg, fun hl b hb => ?_⟩
      rw [mapE_live] at hl
      refine ⟨hF hl b hb, ?_⟩
      rcases hnew _ _ _ b h0 hl hx hb with h1 | h1
      · exact .inl (hwF b h1).1
      · exact .inr h1
    · obtain ⟨x, hx, hok, hF⟩ := hat.real.ent _ _ hk
      refine ⟨x, hM _ _ hx, hok.move hM hh (fun hl b hb => hc.block b (hother k e x b hgn hk hl hx hb) (hok.blk_lt hl hb)), fun hl b hb => ⟨hFF b ⟨hF hl b hb, hok.blk_lt hl hb⟩ (hother k e x b hgn hk hl hx hb), .inl (hF hl b hb)⟩⟩
  · intro k k' e e' x x' b hk hk' hl hl' hx hx' hb hb'
    rcases hget k e hk with ⟨k0, e0, e1, h0, rfl, hm, hc0⟩ | ⟨hks, hgn, hk⟩ <;> rcases hget k' e' hk' with ⟨k0', e0', e1', h0', rfl, hm', hc0'⟩ | ⟨hks', hgn', hk'⟩
    · rw [hm] at hx
      rw [hm'] at hx'
      have := hR.inj _ _ _ _ _ _ b h0 h0' (by rw [mapE_live] at hl; exact hl) (by rw [mapE_live] at hl'; exact hl') hx hx' hb hb'
      rw [e1, e1', this]
    · rw [hm] at hx
      rw [hM2o k' hks'] at hx'
      obtain ⟨y, hy, hok, _⟩ := hat.real.ent _ _ hk'
      rw [hx'] at hy
      obtain rfl := Option.some.inj hy
      rcases hnew _ _ _ b h0 (by rw [mapE_live] at hl; exact hl) hx hb with h1 | h1
      · exact absurd h1 (hother k' e' _ b hgn' hk' hl' hx' hb')
      · have := hok.blk_lt hl' hb'
        omega
    · rw [hM2o k hks] at hx
      rw [hm'] at hx'
      obtain ⟨y, hy, hok, _⟩ := hat.real.ent _ _ hk
      rw [hx] at hy
      obtain rfl := Option.some.inj hy
      rcases hnew _ _ _ b h0' (by rw [mapE_live] at hl'; exact hl') hx' hb' with h1 | h1
      · exact absurd h1 (hother k e _ b hgn hk hl hx hb)
      · have := hok.blk_lt hl hb
        omega
    · rw [hM2o k hks] at hx
      rw [hM2o k' hks'] at hx'
      exact hat.real.inj _ _ _ _ _ _ b hk hk' hl hl' hx hx' hb hb'
  · obtain ⟨k0, e0, u0, k1, k2, k3, k4, k5, _⟩ := hwr b hb
    exact hat.reach _ _ _ b ((hHc k0 k1).trans k2) (by rw [mapE_live]; exact k3) k4 k5
  · intro k e x b hk hl hx hb
    rcases hget k e hk with ⟨k0, e0, e1, h0, rfl, hm, _⟩ | ⟨hks, hgn, hk⟩
    · rw [hm] at hx
      rcases hnew _ _ _ b h0 (by rw [mapE_live] at hl; exact hl) hx hb with h1 | h1
      · obtain ⟨k0, e0, u0, k1, k2, k3, k4, k5, _⟩ := hwr b h1
        exact hat.reach _ _ _ b ((hHc k0 k1).trans k2) (by rw [mapE_live]; exact k3) k4 k5
      · right
        have := hat.chg.size
        omega
    · rw [hM2o k hks] at hx
      exact hat.reach k e x b hk hl hx hb
end
end Go.Proofs.YtjknjekemolndaaGreat.Abs
namespace Go.Proofs.YtjknjekemolndaaGreat.ZL
open Go Go.Proofs.YtjknjekemolndaaGreat.Abs Go.Proofs.YtjknjekemolndaaGreat.Abs.Pl Go.RowKit Go.Proofs
set_option linter.unusedVariables false
set_option linter.unusedSimpArgs false
def bd63 (x : Int) : Prop := -9223372036854775807 ≤ x ∧ x ≤ 9223372036854775807
theorem iAbsolute (x : Int) (h : bd63 x) : Cn Tryz.prog 162 [I x] (I x.natAbs) hemp := by
  obtain ⟨h1, h2⟩ := h
  refine Cn.of [] mixed Tryz.func162 rfl Tryz.call162 (by kernel_rfl) rfl ?_
  simp -implicitDefEqProofs -dsimp +contextual [-Bool.exists_bool, -Int.not_le, -Int.not_lt, -getElem?_pos, -List.getD_eq_getElem?_getD, Tryz.f162]
  refine ⟨fun h => ?_, fun h => ?_⟩
  · rw [wr (by omega) (by omega)]
    exact RLe.ii (by omega)
  · exact RLe.ii (by omega)
theorem iCommonDivisor (a b : Int) (ha : bd63 a) (hb : bd63 b) : Cn Tryz.prog 140 [I a, I b] (I (Int.gcd a b : Nat)) hemp := by
  refine Cn.of [] mixed Tryz.func140 rfl Tryz.call140 (by kernel_rfl) rfl ?_
  simp -implicitDefEqProofs -dsimp +contextual [-Bool.exists_bool, -Int.not_le, -Int.not_lt, -getElem?_pos, -List.getD_eq_getElem?_getD, Tryz.f140]
  refine CallJ.pure (iAbsolute a ha) rfl (by simp [-Bool.exists_bool, -Int.not_le, -Int.not_lt, -getElem?_pos, -List.getD_eq_getElem?_getD]) ?_
  simp -implicitDefEqProofs -dsimp +contextual [-Bool.exists_bool, -Int.not_le, -Int.not_lt, -getElem?_pos, -List.getD_eq_getElem?_getD]
  refine CallJ.pure (iAbsolute b hb) rfl (by simp [-Bool.exists_bool, -Int.not_le, -Int.not_lt, -getElem?_pos, -List.getD_eq_getElem?_getD]) ?_
  simp -implicitDefEqProofs -dsimp +contextual [-Bool.exists_bool, -Int.not_le, -Int.not_lt, -getElem?_pos, -List.getD_eq_getElem?_getD]
  refine WP.loop mixed [] (fun p : Nat × Nat => ⟨tl [(0, I p.1), (1, I p.2)], hl [], 1⟩) (fun p => p.1 ≤ 9223372036854775807 ∧ p.2 ≤ 9223372036854775807 ∧ Nat.gcd p.1 p.2 = Int.gcd a b) (fun p => p.2) (a.natAbs, b.natAbs) (by kernel_rfl) ?_ ?_ ?_
  · refine Le.told [] ?_ ?_ ?_ <;> simp [-Bool.exists_bool, -Int.not_le, -Int.not_lt, -getElem?_pos, -List.getD_eq_getElem?_getD]
  · unfold bd63 at ha hb
    exact ⟨by simp only; omega, by simp only; omega, rfl⟩
  · rintro ⟨x, y⟩ ⟨hx, hy, he⟩
    simp only at hx hy he
    simp -implicitDefEqProofs -dsimp +contextual [-Bool.exists_bool, -Int.not_le, -Int.not_lt, -getElem?_pos, -List.getD_eq_getElem?_getD]
    refine ⟨?_, ?_⟩
    · rintro rfl
      refine RLe.ii ?_
      simp [-Bool.exists_bool, -Int.not_le, -Int.not_lt, -getElem?_pos, -List.getD_eq_getElem?_getD, ← he]
    · intro h
      have ht : x % y < y := Nat.mod_lt _ (by omega)
      refine ⟨y, x % y, ⟨by omega, by omega, ?_⟩, ht, ?_⟩
      · rw [← he, Nat.gcd_comm y, ← Nat.gcd_rec, Nat.gcd_comm]
      · refine Le.told [] ?_ ?_ ?_ <;> simp [-Bool.exists_bool, -Int.not_le, -Int.not_lt, -getElem?_pos, -List.getD_eq_getElem?_getD]
        exact Int.tmod_eq_emod_of_nonneg (by omega)
theorem iDivisorOf (l : List Int) (h40 : l.length < 2 ^ 40) (hm : ∀ y ∈ l, bd63 y) : Cn Tryz.prog 141 [Is l] (I (gcdL l : Nat)) hemp := by
  refine Cn.of [] mixed Tryz.func141 rfl Tryz.call141 (by kernel_rfl) rfl ?_
  simp -implicitDefEqProofs -dsimp +contextual [-Bool.exists_bool, -Int.not_le, -Int.not_lt, -getElem?_pos, -List.getD_eq_getElem?_getD, Tryz.f141]
  refine WP.loop mixed [] (fun p : Nat × Nat => ⟨tl [(3, I p.2), (6, Is l), (7, I l.length), (8, I p.1)], hl [], 1⟩) (fun p => p.1 ≤ l.length ∧ p.2 ≤ 9223372036854775807 ∧ gcdF p.2 (l.drop p.1) = gcdL l) (fun p => l.length - p.1) (0, 0) (by kernel_rfl) ?_ ?_ ?_
  · refine Le.told [] ?_ ?_ ?_ <;> simp [-Bool.exists_bool, -Int.not_le, -Int.not_lt, -getElem?_pos, -List.getD_eq_getElem?_getD]
  · exact ⟨Nat.zero_le _, Nat.zero_le _, rfl⟩
  · rintro ⟨i, g⟩ ⟨hi, hg, he⟩
    simp only at hi hg he
    simp -implicitDefEqProofs -dsimp +contextual [-Bool.exists_bool, -Int.not_le, -Int.not_lt, -getElem?_pos, -List.getD_eq_getElem?_getD]
    refine ⟨fun h => ?_, fun h => ?_⟩
    · have hy := hm _ (nth_mem h)
      refine CallJ.pure (iCommonDivisor (g : Int) (nth l i) ⟨by omega, by omega⟩ hy) rfl (by simp [-Bool.exists_bool, -Int.not_le, -Int.not_lt, -getElem?_pos, -List.getD_eq_getElem?_getD]) ?_
      simp -implicitDefEqProofs -dsimp +contextual [-Bool.exists_bool, -Int.not_le, -Int.not_lt, -getElem?_pos, -List.getD_eq_getElem?_getD]
      rw [nth_drop h, gcdF_cons] at he
      have hle : Nat.gcd g (nth l i).natAbs ≤ 9223372036854775807 := by
        have h1 := hy.1
        have h2 := hy.2
        by_cases h0 : (nth l i).natAbs = 0
        · rw [h0, Nat.gcd_zero_right]; exact hg
        · have := Nat.le_of_dvd (by omega) (Nat.gcd_dvd_right g (nth l i).natAbs)
          omega
      refine ⟨i + 1, Nat.gcd g (nth l i).natAbs, ⟨h, hle, he⟩, by omega, ?_⟩
      rw [wr (by omega) (by omega)]
      refine Le.told [] ?_ ?_ ?_ <;> simp [-Bool.exists_bool, -Int.not_le, -Int.not_lt, -getElem?_pos, -List.getD_eq_getElem?_getD, Int.gcd]
    · rw [drop_nil (by omega)] at he
      refine RLe.ii ?_
      rw [← he]; rfl
theorem iIsNumber (x : Int) : Cn Tryz.prog 103 [I x] (B (isNum x)) hemp := by
  refine Cn.of [] mixed Tryz.func103 rfl Tryz.call103 (by kernel_rfl) rfl ?_
  simp -implicitDefEqProofs -dsimp +contextual [-Bool.exists_bool, -Int.not_le, -Int.not_lt, -getElem?_pos, -List.getD_eq_getElem?_getD, Tryz.f103]
  refine ⟨fun h => RLe.bb (by simp [-Bool.exists_bool, -Int.not_le, -Int.not_lt, -getElem?_pos, -List.getD_eq_getElem?_getD, isNum, h]), fun h => RLe.bb (by simp [-Bool.exists_bool, -Int.not_le, -Int.not_lt, -getElem?_pos, -List.getD_eq_getElem?_getD, isNum, h])⟩
theorem iHasVariables (a : At) (h : a.1.length ≤ 1048576) (hm : ∀ y ∈ a.1, bd63 y) : Cn Tryz.prog 105 [A1 a] (B (hasV a)) hemp := by
  refine Cn.of [] mixed Tryz.func105 rfl Tryz.call105 (by kernel_rfl) rfl ?_
  simp -implicitDefEqProofs -dsimp +contextual [-Bool.exists_bool, -Int.not_le, -Int.not_lt, -getElem?_pos, -List.getD_eq_getElem?_getD, Tryz.f105]
  refine CallJ.pure (iDivisorOf a.1 (by omega) hm) rfl (by simp [-Bool.exists_bool, -Int.not_le, -Int.not_lt, -getElem?_pos, -List.getD_eq_getElem?_getD]) ?_
  simp -implicitDefEqProofs -dsimp +contextual [-Bool.exists_bool, -Int.not_le, -Int.not_lt, -getElem?_pos, -List.getD_eq_getElem?_getD]
  refine RLe.bb ?_
  simp [-Bool.exists_bool, -Int.not_le, -Int.not_lt, -getElem?_pos, -List.getD_eq_getElem?_getD, hasV]
theorem bd63_num {x : Int} (h : isNum x = true) : bd63 x := by
  have := isNum_iff.1 h
  constructor <;> omega
theorem gcdL_bd {l : List Int} (h : ∀ y ∈ l, bd63 y) : bd63 (gcdL l : Nat) := by
  have := gcdL_le l 9223372036854775807 (fun x hx => by have := h x hx; unfold bd63 at this; omega)
  constructor <;> omega
theorem iIsAtom (a : At) : Cn Tryz.prog 97 [A1 a] (B (isAt a.1 a.2.1)) hemp := by
  refine Cn.of [] mixed Tryz.func97 rfl Tryz.call97 (by kernel_rfl) rfl ?_
  simp -implicitDefEqProofs -dsimp +contextual [-Bool.exists_bool, -Int.not_le, -Int.not_lt, -getElem?_pos, -List.getD_eq_getElem?_getD, Tryz.f97]
  refine ⟨fun h4 => RLe.bb (by simp [-Bool.exists_bool, -Int.not_le, -Int.not_lt, -getElem?_pos, -List.getD_eq_getElem?_getD, isAt]; omega), fun h4 => ?_⟩
  refine CallJ.pure (iIsNumber _) rfl (by simp [-Bool.exists_bool, -Int.not_le, -Int.not_lt, -getElem?_pos, -List.getD_eq_getElem?_getD]) ?_
  simp -implicitDefEqProofs -dsimp +contextual [-Bool.exists_bool, -Int.not_le, -Int.not_lt, -getElem?_pos, -List.getD_eq_getElem?_getD, h4]
  refine ⟨fun hc => ?_, fun hc => RLe.bb (by simp [-Bool.exists_bool, -Int.not_le, -Int.not_lt, -getElem?_pos, -List.getD_eq_getElem?_getD, isAt, hc])⟩
  refine WP.loop mixed [] (fun i : Nat => ⟨tl [(1, .ptr (0, 0) 0), (16, Is a.1), (17, I a.1.length), (18, I i)], hl [((0, 0), .box (aV a))], 3⟩) (fun i => i ≤ a.1.length ∧ a.1.all isNum = (a.1.drop i).all isNum) (fun i => a.1.length - i) 0 (by kernel_rfl) ?_ ?_ ?_
  · refine Le.told [] ?_ ?_ ?_ <;> simp [-Bool.exists_bool, -Int.not_le, -Int.not_lt, -getElem?_pos, -List.getD_eq_getElem?_getD]
  · simp [-Bool.exists_bool, -Int.not_le, -Int.not_lt, -getElem?_pos, -List.getD_eq_getElem?_getD]
  · rintro i ⟨hi, he⟩
    simp -implicitDefEqProofs -dsimp +contextual [-Bool.exists_bool, -Int.not_le, -Int.not_lt, -getElem?_pos, -List.getD_eq_getElem?_getD]
    refine ⟨fun h => ?_, fun h => ?_⟩
    · refine CallJ.pure (iIsNumber _) rfl (by simp [-Bool.exists_bool, -Int.not_le, -Int.not_lt, -getElem?_pos, -List.getD_eq_getElem?_getD]) ?_
      simp -implicitDefEqProofs -dsimp +contextual [-Bool.exists_bool, -Int.not_le, -Int.not_lt, -getElem?_pos, -List.getD_eq_getElem?_getD, h]
      rw [nth_drop h, List.all_cons] at he
      refine ⟨fun hn => ?_, fun hn => RLe.bb (by rw [hn] at he; rw [isAt, he]; simp [-Bool.exists_bool, -Int.not_le, -Int.not_lt, -getElem?_pos, -List.getD_eq_getElem?_getD])⟩
      refine ⟨i + 1, ⟨h, by rw [he, hn]; rfl⟩, by omega, ?_⟩
      refine Le.told [] ?_ ?_ ?_ <;> simp [-Bool.exists_bool, -Int.not_le, -Int.not_lt, -getElem?_pos, -List.getD_eq_getElem?_getD, wr (x := (i : Int) + 1) (by omega) (by omega)]
    · rw [drop_nil (by omega)] at he
      have he' : a.1.all isNum = true := he
      have hb : ∀ x ∈ a.1, bd63 x := fun x hx => bd63_num (List.all_eq_true.1 he' x hx)
      refine CallJ.pure (iDivisorOf a.1 (by omega) hb) rfl (by simp [-Bool.exists_bool, -Int.not_le, -Int.not_lt, -getElem?_pos, -List.getD_eq_getElem?_getD]) ?_
      simp -implicitDefEqProofs -dsimp +contextual [-Bool.exists_bool, -Int.not_le, -Int.not_lt, -getElem?_pos, -List.getD_eq_getElem?_getD, h]
      refine CallJ.pure (iCommonDivisor (gcdL a.1 : Nat) a.2.1 (gcdL_bd hb) (bd63_num hc)) rfl (by simp [-Bool.exists_bool, -Int.not_le, -Int.not_lt, -getElem?_pos, -List.getD_eq_getElem?_getD]) ?_
      simp -implicitDefEqProofs -dsimp +contextual [-Bool.exists_bool, -Int.not_le, -Int.not_lt, -getElem?_pos, -List.getD_eq_getElem?_getD, h]
      refine RLe.bb ?_
      have h4' : a.1.length ≤ 4 := by omega
      rw [isAt, hc, he']
      simp only [h4', Int.gcd, decide_true, Bool.true_and, Int.natAbs_natCast]
      exact decide_eq_decide.2 (by omega)
theorem iCopyNumbers (l : List Int) (h : l.length ≤ 1048576) : Cn Tryz.prog 149 [Is l] (.ref (0, 0) l.length) (hl [((0, 0), .row 3 l.length (dl (l.map (D.int .i64))))]) := by
  refine Cn.of [] mixed Tryz.func149 rfl Tryz.call149 (by kernel_rfl) rfl ?_
  simp -implicitDefEqProofs -dsimp +contextual [-Bool.exists_bool, -Int.not_le, -Int.not_lt, -getElem?_pos, -List.getD_eq_getElem?_getD, Tryz.f149]
  refine ⟨⟨by omega, by simp [-Bool.exists_bool, -Int.not_le, -Int.not_lt, -getElem?_pos, -List.getD_eq_getElem?_getD, maxLen]; omega⟩, ?_⟩
  refine RLe.told [((0, 0), (3, 0))] ?_ ?_ ?_ <;> simp [-Bool.exists_bool, -Int.not_le, -Int.not_lt, -getElem?_pos, -List.getD_eq_getElem?_getD]
theorem iCopyAtom (a : At) (h : a.1.length ≤ 1048576) : Cn Tryz.prog 107 [A1 a] (.agg [.ref (0, 0) a.1.length, I a.2.1, B a.2.2]) (hl [((0, 0), .row 3 a.1.length (dl (a.1.map (D.int .i64))))]) := by
  refine Cn.of [] mixed Tryz.func107 rfl Tryz.call107 (by kernel_rfl) rfl ?_
  simp -implicitDefEqProofs -dsimp +contextual [-Bool.exists_bool, -Int.not_le, -Int.not_lt, -getElem?_pos, -List.getD_eq_getElem?_getD, Tryz.f107]
  refine CallJ.pure (iCopyNumbers a.1 h) rfl (by simp [-Bool.exists_bool, -Int.not_le, -Int.not_lt, -getElem?_pos, -List.getD_eq_getElem?_getD]) ?_
  simp -implicitDefEqProofs -dsimp +contextual [-Bool.exists_bool, -Int.not_le, -Int.not_lt, -getElem?_pos, -List.getD_eq_getElem?_getD]
  refine RLe.told [((0, 0), (4, 0))] ?_ ?_ ?_ <;> simp [-Bool.exists_bool, -Int.not_le, -Int.not_lt, -getElem?_pos, -List.getD_eq_getElem?_getD]
end Go.Proofs.YtjknjekemolndaaGreat.ZL
namespace Go.Proofs.YtjknjekemolndaaGreat.ZL
open Go Go.Proofs.YtjknjekemolndaaGreat.Abs Go.Proofs.YtjknjekemolndaaGreat.Abs.Pl Go.RowKit Go.Proofs
set_option linter.unusedVariables false
set_option linter.unusedSimpArgs false
theorem iSign (x y : Int) : Cn Tryz.prog 152 [I x, I y] (I (sgn x y)) hemp := by
  refine Cn.of [] mixed Tryz.func152 rfl Tryz.call152 (by kernel_rfl) rfl ?_
  simp -implicitDefEqProofs -dsimp +contextual [-Bool.exists_bool, -Int.not_le, -Int.not_lt, -getElem?_pos, -List.getD_eq_getElem?_getD, Tryz.f152]
  refine ⟨fun h => RLe.ii (by simp [-Bool.exists_bool, -Int.not_le, -Int.not_lt, -getElem?_pos, -List.getD_eq_getElem?_getD, sgn, h]), fun h => ⟨fun h2 => RLe.ii ?_, fun h2 => RLe.ii ?_⟩⟩
  · rw [sgn, if_neg h, if_pos h2]
  · rw [sgn, if_neg h, if_neg h2]
theorem iDirectionDivisor (a : At) (h : a.1.length ≤ 1048576) (hm : ∀ y ∈ a.1, bd63 y) : Cn Tryz.prog 153 [A1 a] (I (div1 (gcdL a.1))) hemp := by
  refine Cn.of [] mixed Tryz.func153 rfl Tryz.call153 (by kernel_rfl) rfl ?_
  simp -implicitDefEqProofs -dsimp +contextual [-Bool.exists_bool, -Int.not_le, -Int.not_lt, -getElem?_pos, -List.getD_eq_getElem?_getD, Tryz.f153]
  refine CallJ.pure (iDivisorOf a.1 (by omega) hm) rfl (by simp [-Bool.exists_bool, -Int.not_le, -Int.not_lt, -getElem?_pos, -List.getD_eq_getElem?_getD]) ?_
  simp -implicitDefEqProofs -dsimp +contextual [-Bool.exists_bool, -Int.not_le, -Int.not_lt, -getElem?_pos, -List.getD_eq_getElem?_getD]
  refine ⟨fun h => RLe.ii (by simp [-Bool.exists_bool, -Int.not_le, -Int.not_lt, -getElem?_pos, -List.getD_eq_getElem?_getD, div1, h]), fun h => RLe.ii (by simp [-Bool.exists_bool, -Int.not_le, -Int.not_lt, -getElem?_pos, -List.getD_eq_getElem?_getD, div1, h])⟩
theorem nuA.bd63 {a : At} (h : nuA a) : ∀ x ∈ a.1, bd63 x := fun x hx => h.bd x hx
theorem iCompareDirections (a b : At) (ha : nuA a) (hb : nuA b) (hl : a.1.length = b.1.length) : Cn Tryz.prog 110 [A1 a, A1 b] (I (wayAt a.1 b.1)) hemp := by
  refine Cn.of [] mixed Tryz.func110 rfl Tryz.call110 (by kernel_rfl) rfl ?_
  simp -implicitDefEqProofs -dsimp +contextual [-Bool.exists_bool, -Int.not_le, -Int.not_lt, -getElem?_pos, -List.getD_eq_getElem?_getD, Tryz.f110]
  refine CallJ.pure (iDirectionDivisor a ha.1 ha.bd63) rfl (by simp [-Bool.exists_bool, -Int.not_le, -Int.not_lt, -getElem?_pos, -List.getD_eq_getElem?_getD]) ?_
  simp -implicitDefEqProofs -dsimp +contextual [-Bool.exists_bool, -Int.not_le, -Int.not_lt, -getElem?_pos, -List.getD_eq_getElem?_getD]
  refine CallJ.pure (iDirectionDivisor b hb.1 hb.bd63) rfl (by simp [-Bool.exists_bool, -Int.not_le, -Int.not_lt, -getElem?_pos, -List.getD_eq_getElem?_getD]) ?_
  simp -implicitDefEqProofs -dsimp +contextual [-Bool.exists_bool, -Int.not_le, -Int.not_lt, -getElem?_pos, -List.getD_eq_getElem?_getD]
  have hp := div1_pos (gcdL a.1)
  have hq := div1_pos (gcdL b.1)
  unfold wayAt
  generalize div1 (gcdL a.1) = g at hp ⊢
  generalize div1 (gcdL b.1) = h at hq ⊢
  have la := ha.1
  refine WP.loop mixed [] (fun i : Nat => ⟨tl [(2, .ptr (0, 0) 0), (3, .ptr (1, 0) 0), (5, I g), (6, I h), (15, I a.1.length), (16, I i)], Go.Proofs.YtjknjekemolndaaGreat.Abs.hl [((0, 0), .box (aV a)), ((1, 0), .box (aV b))], 2⟩) (fun i => i ≤ a.1.length ∧ cmpDir g h a.1 b.1 = cmpDir g h (a.1.drop i) (b.1.drop i)) (fun i => a.1.length - i) 0 (by kernel_rfl) ?_ ?_ ?_
  · refine Le.told [] ?_ ?_ ?_ <;> simp [-Bool.exists_bool, -Int.not_le, -Int.not_lt, -getElem?_pos, -List.getD_eq_getElem?_getD]
  · simp [-Bool.exists_bool, -Int.not_le, -Int.not_lt, -getElem?_pos, -List.getD_eq_getElem?_getD]
  · rintro i ⟨hi, he⟩
    simp -implicitDefEqProofs -dsimp +contextual [-Bool.exists_bool, -Int.not_le, -Int.not_lt, -getElem?_pos, -List.getD_eq_getElem?_getD]
    refine ⟨fun h1 => ?_, fun h1 => ?_⟩
    · have h2 : i < b.1.length := by omega
      have hg0 : ¬ g = 0 := by omega
      have hh0 : ¬ h = 0 := by omega
      have sa : IntKind.wrap .i64 ((nth a.1 i).tdiv g) = (nth a.1 i).tdiv g := have hy := ha.bd _ (nth_mem h1); tdiv64 hy.1 hy.2
      have sb : IntKind.wrap .i64 ((nth b.1 i).tdiv h) = (nth b.1 i).tdiv h := have hy := hb.bd _ (nth_mem h2); tdiv64 hy.1 hy.2
      simp -implicitDefEqProofs -dsimp +contextual [-Bool.exists_bool, -Int.not_le, -Int.not_lt, -getElem?_pos, -List.getD_eq_getElem?_getD, h2, hg0, hh0]
      rw [nth_drop h1, nth_drop h2, cmpDir_cons] at he
      rw [sa, sb]
      refine CallJ.pure (iSign ((nth a.1 i).tdiv g) ((nth b.1 i).tdiv h)) rfl (by simp [-Bool.exists_bool, -Int.not_le, -Int.not_lt, -getElem?_pos, -List.getD_eq_getElem?_getD]) ?_
      simp -implicitDefEqProofs -dsimp +contextual [-Bool.exists_bool, -Int.not_le, -Int.not_lt, -getElem?_pos, -List.getD_eq_getElem?_getD, h2, hg0, hh0]
      have hz : sgn ((nth a.1 i).tdiv g) ((nth b.1 i).tdiv h) = 0 ↔ (nth a.1 i).tdiv g = (nth b.1 i).tdiv h := by
        unfold sgn
        split
        · constructor <;> intro <;> omega
        · split
          · constructor <;> intro <;> omega
          · constructor <;> intro <;> omega
      refine ⟨fun e => ⟨i + 1, ⟨h1, ?_⟩, by omega, ?_⟩, fun e => RLe.ii ?_⟩
      · have := hz.1 e
        rw [he, if_neg (by omega), if_neg (by omega)]
      · rw [wr (by omega) (by omega)]
        refine Le.told [] ?_ ?_ ?_ <;> simp [-Bool.exists_bool, -Int.not_le, -Int.not_lt, -getElem?_pos, -List.getD_eq_getElem?_getD]
      · rw [he]
        unfold sgn at e ⊢
        split
        · rfl
        · rename_i h3
          rw [if_neg h3] at e
          split
          · rfl
          · rename_i h4
            rw [if_neg h4] at e
            exact absurd rfl e
    · refine RLe.ii ?_
      rw [he, drop_nil (l := a.1) (by omega)]
      unfold cmpDir
      rfl
theorem iCompareAtoms (a b : At) : Cn Tryz.prog 109 [A1 a, A1 b] (I (cmpAt a.1 a.2.1 a.2.2 b.1 b.2.1 b.2.2)) hemp := by
  refine Cn.of [] mixed Tryz.func109 rfl Tryz.call109 (by kernel_rfl) rfl ?_
  simp -implicitDefEqProofs -dsimp +contextual [-Bool.exists_bool, -Int.not_le, -Int.not_lt, -getElem?_pos, -List.getD_eq_getElem?_getD, Tryz.f109]
  refine CallJ.pure (iIsAtom a) rfl (by simp [-Bool.exists_bool, -Int.not_le, -Int.not_lt, -getElem?_pos, -List.getD_eq_getElem?_getD]) ?_
  simp -implicitDefEqProofs -dsimp +contextual [-Bool.exists_bool, -Int.not_le, -Int.not_lt, -getElem?_pos, -List.getD_eq_getElem?_getD]
  refine ⟨fun ha => ?_, fun ha => RLe.ii (by simp [-Bool.exists_bool, -Int.not_le, -Int.not_lt, -getElem?_pos, -List.getD_eq_getElem?_getD, cmpAt, ha])⟩
  refine CallJ.pure (iIsAtom b) rfl (by simp [-Bool.exists_bool, -Int.not_le, -Int.not_lt, -getElem?_pos, -List.getD_eq_getElem?_getD]) ?_
  simp -implicitDefEqProofs -dsimp +contextual [-Bool.exists_bool, -Int.not_le, -Int.not_lt, -getElem?_pos, -List.getD_eq_getElem?_getD, ha]
  refine ⟨fun hb => ?_, fun hb => RLe.ii (by simp [-Bool.exists_bool, -Int.not_le, -Int.not_lt, -getElem?_pos, -List.getD_eq_getElem?_getD, cmpAt, hb])⟩
  refine ⟨fun hl => ?_, fun hl => RLe.ii ?_⟩
  rotate_left
  · rw [cmpAt, if_neg]
    simp only [Bool.and_eq_true, decide_eq_true_eq]
    omega
  have hl' : a.1.length = b.1.length := by omega
  have na := okA.nu (d := a.1.length) ⟨ha, rfl⟩
  have nb := okA.nu (d := b.1.length) ⟨hb, rfl⟩
  have ec : cmpAt a.1 a.2.1 a.2.2 b.1 b.2.1 b.2.2 = if wayAt a.1 b.1 ≠ 0 then wayAt a.1 b.1 else strengthAt a.1 a.2.1 a.2.2 b.1 b.2.1 b.2.2 := by
    rw [cmpAt, if_pos (by simp [-Bool.exists_bool, -Int.not_le, -Int.not_lt, -getElem?_pos, -List.getD_eq_getElem?_getD, ha, hb, hl'])]
  rw [ec]
  refine CallJ.pure (iCompareDirections a b na nb hl') rfl (by simp [-Bool.exists_bool, -Int.not_le, -Int.not_lt, -getElem?_pos, -List.getD_eq_getElem?_getD]) ?_
  simp -implicitDefEqProofs -dsimp +contextual [-Bool.exists_bool, -Int.not_le, -Int.not_lt, -getElem?_pos, -List.getD_eq_getElem?_getD, ha, hb, hl]
  refine ⟨fun hw => ?_, fun hw => RLe.ii (by first | rfl | rw [if_pos hw])⟩
  rw [if_neg (by simp [-Bool.exists_bool, -Int.not_le, -Int.not_lt, -getElem?_pos, -List.getD_eq_getElem?_getD, hw])]
  refine CallJ.pure (iDirectionDivisor b nb.1 nb.bd63) rfl (by simp [-Bool.exists_bool, -Int.not_le, -Int.not_lt, -getElem?_pos, -List.getD_eq_getElem?_getD]) ?_
  simp -implicitDefEqProofs -dsimp +contextual [-Bool.exists_bool, -Int.not_le, -Int.not_lt, -getElem?_pos, -List.getD_eq_getElem?_getD, ha, hb, hl]
  refine CallJ.pure (iDirectionDivisor a na.1 na.bd63) rfl (by simp [-Bool.exists_bool, -Int.not_le, -Int.not_lt, -getElem?_pos, -List.getD_eq_getElem?_getD]) ?_
  simp -implicitDefEqProofs -dsimp +contextual [-Bool.exists_bool, -Int.not_le, -Int.not_lt, -getElem?_pos, -List.getD_eq_getElem?_getD, ha, hb, hl]
  have e1 := mul_bd2 na.2.2 nb.gcd
  have e2 := mul_bd2 nb.2.2 na.gcd
  rw [e1, e2]
  refine CallJ.pure (iSign (a.2.1 * div1 (gcdL b.1)) (b.2.1 * div1 (gcdL a.1))) rfl (by simp [-Bool.exists_bool, -Int.not_le, -Int.not_lt, -getElem?_pos, -List.getD_eq_getElem?_getD]) ?_
  simp -implicitDefEqProofs -dsimp +contextual [-Bool.exists_bool, -Int.not_le, -Int.not_lt, -getElem?_pos, -List.getD_eq_getElem?_getD, ha, hb, hl]
  rw [strengthAt]
  refine ⟨fun hs => ?_, fun hs => RLe.ii (by first | rfl | rw [if_pos hs])⟩
  rw [if_neg (by simp [-Bool.exists_bool, -Int.not_le, -Int.not_lt, -getElem?_pos, -List.getD_eq_getElem?_getD, hs])]
  refine ⟨fun h1 => RLe.ii ?_, fun h1 => ⟨fun h2 => RLe.ii ?_, fun h2 => RLe.ii ?_⟩⟩
  · rw [if_pos (by simpa [-Bool.exists_bool, -Int.not_le, -Int.not_lt, -getElem?_pos, -List.getD_eq_getElem?_getD] using h1)]
  · have h3 : b.2.2 = false := by
      rw [h2] at h1
      cases hb2 : b.2.2 <;> simp_all [-Bool.exists_bool, -Int.not_le, -Int.not_lt, -getElem?_pos, -List.getD_eq_getElem?_getD]
    simp [-Bool.exists_bool, -Int.not_le, -Int.not_lt, -getElem?_pos, -List.getD_eq_getElem?_getD, strengthAt, hs, h3]
  · have h3 : b.2.2 = true := by
      rw [h2] at h1
      cases hb2 : b.2.2 <;> simp_all [-Bool.exists_bool, -Int.not_le, -Int.not_lt, -getElem?_pos, -List.getD_eq_getElem?_getD]
    simp [-Bool.exists_bool, -Int.not_le, -Int.not_lt, -getElem?_pos, -List.getD_eq_getElem?_getD, strengthAt, hs, h3]
end Go.Proofs.YtjknjekemolndaaGreat.ZL
namespace Go.Proofs.YtjknjekemolndaaGreat.ZL
open Go Go.Proofs.YtjknjekemolndaaGreat.Abs Go.Proofs.YtjknjekemolndaaGreat.Abs.Pl Go.RowKit Go.Proofs
set_option linter.unusedVariables false
set_option linter.unusedSimpArgs false
def divs (g : Int) (l : List Int) (i : Nat) : List Int := (l.take i).map (·.tdiv g) ++ List.replicate (l.length - i) 0
theorem divs_len (g : Int) (l : List Int) (i : Nat) (h : i ≤ l.length) : (divs g l i).length = l.length := by simp [-Bool.exists_bool, -Int.not_le, -Int.not_lt, -getElem?_pos, -List.getD_eq_getElem?_getD, divs]; omega
theorem divs_set (g : Int) (l : List Int) (i : Nat) (h : i < l.length) : (divs g l i).set i ((nth l i).tdiv g) = divs g l (i + 1) := by
  have e : l.length - i = (l.length - (i + 1)) + 1 := by omega
  unfold divs
  rw [e, List.replicate_succ, nth_take h, List.set_append_right _ _ (by simp [-Bool.exists_bool, -Int.not_le, -Int.not_lt, -getElem?_pos, -List.getD_eq_getElem?_getD]; omega)]
  simp [-Bool.exists_bool, -Int.not_le, -Int.not_lt, -getElem?_pos, -List.getD_eq_getElem?_getD, Nat.min_eq_left (Nat.le_of_lt h)]
theorem divs_end (g : Int) (l : List Int) : divs g l l.length = l.map (·.tdiv g) := by simp [-Bool.exists_bool, -Int.not_le, -Int.not_lt, -getElem?_pos, -List.getD_eq_getElem?_getD, divs]
theorem iMakeOf (l : List Int) (k : Int) (s : Bool) (h20 : l.length ≤ 1048576) (hm : ∀ y ∈ l, bd63 y) (hk : bd63 k) : Cn Tryz.prog 98 [Is l, I k, B s] (A2 (mkAt l k s)) hemp := by
  refine Cn.of [] mixed Tryz.func98 rfl Tryz.call98 (by kernel_rfl) rfl ?_
  simp -implicitDefEqProofs -dsimp +contextual [-Bool.exists_bool, -Int.not_le, -Int.not_lt, -getElem?_pos, -List.getD_eq_getElem?_getD, Tryz.f98]
  refine CallJ.pure (iDivisorOf l (by omega) hm) rfl (by simp [-Bool.exists_bool, -Int.not_le, -Int.not_lt, -getElem?_pos, -List.getD_eq_getElem?_getD]) ?_
  simp -implicitDefEqProofs -dsimp +contextual [-Bool.exists_bool, -Int.not_le, -Int.not_lt, -getElem?_pos, -List.getD_eq_getElem?_getD]
  refine CallJ.pure (iCommonDivisor (gcdL l : Nat) k (gcdL_bd hm) hk) rfl (by simp [-Bool.exists_bool, -Int.not_le, -Int.not_lt, -getElem?_pos, -List.getD_eq_getElem?_getD]) ?_
  simp -implicitDefEqProofs -dsimp +contextual [-Bool.exists_bool, -Int.not_le, -Int.not_lt, -getElem?_pos, -List.getD_eq_getElem?_getD]
  have hp := div1_pos (Nat.gcd (gcdL l) k.natAbs)
  have em : mkAt l k s = if isAt (l.map (·.tdiv (div1 (Nat.gcd (gcdL l) k.natAbs)))) (k.tdiv (div1 (Nat.gcd (gcdL l) k.natAbs))) then (l.map (·.tdiv (div1 (Nat.gcd (gcdL l) k.natAbs))), k.tdiv (div1 (Nat.gcd (gcdL l) k.natAbs)), s, true) else noAt := rfl
  have e1 : (decide (gcdL l = 0) && decide (k = 0)) = true → div1 (Nat.gcd (gcdL l) k.natAbs) = 1 := fun h => by
    simp only [Bool.and_eq_true, decide_eq_true_eq] at h
    simp [-Bool.exists_bool, -Int.not_le, -Int.not_lt, -getElem?_pos, -List.getD_eq_getElem?_getD, h.1, h.2, div1]
  have e2 : (decide (gcdL l = 0) && decide (k = 0)) = false → div1 (Nat.gcd (gcdL l) k.natAbs) = ((gcdL l : Int).gcd k : Nat) ∧ ¬ ((gcdL l : Int).gcd k : Nat) = 0 := fun h => by
    have h0 : ¬ Nat.gcd (gcdL l) k.natAbs = 0 := fun h0 => by
      have := Nat.gcd_eq_zero_iff.1 h0
      simp only [Bool.and_eq_false_iff, decide_eq_false_iff_not] at h
      omega
    refine ⟨?_, h0⟩
    rw [div1, if_neg h0]; rfl
  rw [em]
  generalize div1 (Nat.gcd (gcdL l) k.natAbs) = g at hp e1 e2 ⊢
  have hk1 := tdiv64 (g := g) hk.1 hk.2
  have hk2 := wr (x := k) (by unfold bd63 at hk; omega) hk.2
  refine joinb (C := ⟨tl [(6, .ptr (0, 0) 0), (8, I g), (9, .ptr (22, 0) 0), (26, Is l), (27, I l.length), (28, I 0)], hl [((0, 0), .box [.nil, I 0, B false]), ((22, 0), .box [.ref (21, 0) l.length, I (k.tdiv g), B s]), ((21, 0), .row 3 l.length (dl ((divs g l 0).map (D.int .i64))))], 23⟩) ?_ (fun key h => ⟨⟨by omega, by simp [-Bool.exists_bool, -Int.not_le, -Int.not_lt, -getElem?_pos, -List.getD_eq_getElem?_getD, maxLen]; omega⟩, key _ ?_⟩) (fun key h => ⟨⟨by omega, by simp [-Bool.exists_bool, -Int.not_le, -Int.not_lt, -getElem?_pos, -List.getD_eq_getElem?_getD, maxLen]; omega⟩, ?_, key _ ?_⟩)
  · refine WP.loop mixed [] (fun i : Nat => ⟨tl [(6, .ptr (0, 0) 0), (8, I g), (9, .ptr (22, 0) 0), (26, Is l), (27, I l.length), (28, I i)], hl [((0, 0), .box [.nil, I 0, B false]), ((22, 0), .box [.ref (21, 0) l.length, I (k.tdiv g), B s]), ((21, 0), .row 3 l.length (dl ((divs g l i).map (D.int .i64))))], 23⟩) (fun i => i ≤ l.length) (fun i => l.length - i) 0 (by kernel_rfl) (Le.refl _ _ _) (Nat.zero_le _) ?_
    intro i hi
    have hz : ¬ g = 0 := by omega
    by_cases h : i < l.length
    · have h1 : i + 1 ≤ (divs g l i).length := by rw [divs_len g l i hi]; exact h
      simp -implicitDefEqProofs -dsimp +contextual [-Bool.exists_bool, -Int.not_le, -Int.not_lt, -getElem?_pos, -List.getD_eq_getElem?_getD, hz, h, h1]
      have hy := hm _ (nth_mem h)
      rw [tdiv64 hy.1 hy.2]
      refine ⟨i + 1, h, by omega, ?_⟩
      rw [wr (by omega) (by omega)]
      refine Le.told [] ?_ ?_ ?_ <;> simp [-Bool.exists_bool, -Int.not_le, -Int.not_lt, -getElem?_pos, -List.getD_eq_getElem?_getD]
      rw [← divs_set g l i h, List.map_set, List.set_eq_take_append_cons_drop, if_pos (by rw [List.length_map]; exact h1)]
    · obtain rfl : i = l.length := by omega
      have hd := divs_end g l
      simp -implicitDefEqProofs -dsimp +contextual [-Bool.exists_bool, -Int.not_le, -Int.not_lt, -getElem?_pos, -List.getD_eq_getElem?_getD, hz, h]
      refine CallJ.lent (ks := [(21, 0)]) 3 (iIsAtom (l.map (·.tdiv g), k.tdiv g, s)) (by simp [-Bool.exists_bool, -Int.not_le, -Int.not_lt, -getElem?_pos, -List.getD_eq_getElem?_getD, hd]) (by simp [-Bool.exists_bool, -Int.not_le, -Int.not_lt, -getElem?_pos, -List.getD_eq_getElem?_getD]) rfl (by simp [-Bool.exists_bool, -Int.not_le, -Int.not_lt, -getElem?_pos, -List.getD_eq_getElem?_getD]) ?_
      simp -implicitDefEqProofs -dsimp +contextual [-Bool.exists_bool, -Int.not_le, -Int.not_lt, -getElem?_pos, -List.getD_eq_getElem?_getD, hz, h]
      refine ⟨fun hf => ?_, fun hf => ?_⟩
      · refine RLe.pure 3 ?_
        simp [-Bool.exists_bool, -Int.not_le, -Int.not_lt, -getElem?_pos, -List.getD_eq_getElem?_getD, setH, hd]
      · refine RLe.pure 3 ?_
        simp [-Bool.exists_bool, -Int.not_le, -Int.not_lt, -getElem?_pos, -List.getD_eq_getElem?_getD, setH, noAt]
  · refine Le.told [((21, 0), (12, 0)), ((22, 0), (18, 0))] ?_ ?_ ?_ <;> simp [-Bool.exists_bool, -Int.not_le, -Int.not_lt, -getElem?_pos, -List.getD_eq_getElem?_getD, setH, e1 h, hk2, divs]
  · simp only [Bool.and_eq_false_iff, decide_eq_false_iff_not] at h
    intro h1 h2
    simp [-Bool.exists_bool, -Int.not_le, -Int.not_lt, -getElem?_pos, -List.getD_eq_getElem?_getD, h1, h2] at h
  · obtain ⟨e, hz⟩ := e2 h
    rw [← e, hk1]
    refine Le.told [((21, 0), (11, 0)), ((22, 0), (17, 0))] ?_ ?_ ?_ <;> simp [-Bool.exists_bool, -Int.not_le, -Int.not_lt, -getElem?_pos, -List.getD_eq_getElem?_getD, setH, divs]
def mixs (p : Int) (a : List Int) (q : Int) (b : List Int) (i : Nat) : List Int := mixL p (a.take i) q (b.take i) ++ List.replicate (a.length - i) 0
theorem mixs_len (p : Int) (a : List Int) (q : Int) (b : List Int) (i : Nat) (h : i ≤ a.length) (hl : a.length = b.length) : (mixs p a q b i).length = a.length := by simp [-Bool.exists_bool, -Int.not_le, -Int.not_lt, -getElem?_pos, -List.getD_eq_getElem?_getD, mixs, mixL]; omega
theorem mixs_set (p : Int) (a : List Int) (q : Int) (b : List Int) (i : Nat) (h : i < a.length) (h2 : i < b.length) (hl : a.length = b.length) : (mixs p a q b i).set i (p * nth a i + q * nth b i) = mixs p a q b (i + 1) := by
  have e : a.length - i = (a.length - (i + 1)) + 1 := by omega
  have hm : (mixL p (a.take i) q (b.take i)).length = i := by simp [-Bool.exists_bool, -Int.not_le, -Int.not_lt, -getElem?_pos, -List.getD_eq_getElem?_getD, mixL]; omega
  unfold mixs
  rw [e, List.replicate_succ, List.set_append_right _ _ (by rw [hm]; omega), nth_take h, nth_take h2, hm]
  unfold mixL
  rw [List.zipWith_append (by simp [-Bool.exists_bool, -Int.not_le, -Int.not_lt, -getElem?_pos, -List.getD_eq_getElem?_getD]; omega)]
  simp [-Bool.exists_bool, -Int.not_le, -Int.not_lt, -getElem?_pos, -List.getD_eq_getElem?_getD]
theorem mixs_end (p : Int) (a : List Int) (q : Int) (b : List Int) (hl : a.length = b.length) : mixs p a q b a.length = mixL p a q b := by
  have : b.take a.length = b := by rw [hl, List.take_length]
  simp [-Bool.exists_bool, -Int.not_le, -Int.not_lt, -getElem?_pos, -List.getD_eq_getElem?_getD, mixs, this]
theorem iMixAtoms (a : At) (p : Int) (b : At) (q : Int) : Cn Tryz.prog 52 [A1 a, I p, A1 b, I q] (A2 (mixAt a.1 a.2.1 a.2.2 p b.1 b.2.1 b.2.2 q)) hemp := by
  refine Cn.of [] mixed Tryz.func52 rfl Tryz.call52 (by kernel_rfl) rfl ?_
  simp -implicitDefEqProofs -dsimp +contextual [-Bool.exists_bool, -Int.not_le, -Int.not_lt, -getElem?_pos, -List.getD_eq_getElem?_getD, Tryz.f52]
  refine CallJ.pure (iIsAtom a) rfl (by simp [-Bool.exists_bool, -Int.not_le, -Int.not_lt, -getElem?_pos, -List.getD_eq_getElem?_getD]) ?_
  simp -implicitDefEqProofs -dsimp +contextual [-Bool.exists_bool, -Int.not_le, -Int.not_lt, -getElem?_pos, -List.getD_eq_getElem?_getD]
  refine ⟨fun ha => ?_, fun ha => RLe.pure 3 (by simp [-Bool.exists_bool, -Int.not_le, -Int.not_lt, -getElem?_pos, -List.getD_eq_getElem?_getD, mixAt, ha, noAt, setH])⟩
  refine CallJ.pure (iIsAtom b) rfl (by simp [-Bool.exists_bool, -Int.not_le, -Int.not_lt, -getElem?_pos, -List.getD_eq_getElem?_getD]) ?_
  simp -implicitDefEqProofs -dsimp +contextual [-Bool.exists_bool, -Int.not_le, -Int.not_lt, -getElem?_pos, -List.getD_eq_getElem?_getD, ha]
  refine ⟨fun hb => ?_, fun hb => RLe.pure 3 (by simp [-Bool.exists_bool, -Int.not_le, -Int.not_lt, -getElem?_pos, -List.getD_eq_getElem?_getD, mixAt, ha, hb, noAt, setH])⟩
  have no : (a.1.length = b.1.length → 0 ≤ p → p ≤ 400000000 → 0 ≤ q → ¬ q ≤ 400000000) → mixAt a.1 a.2.1 a.2.2 p b.1 b.2.1 b.2.2 q = noAt := fun hno => by
    unfold mixAt
    rw [if_neg]
    intro hh
    simp only [Bool.and_eq_true, decide_eq_true_eq] at hh
    exact hno hh.1.1.2 hh.1.2.1 hh.1.2.2 hh.2.1 hh.2.2
  refine ⟨fun hln => ?_, fun hln => RLe.pure 3 (by rw [no (by omega)]; simp [-Bool.exists_bool, -Int.not_le, -Int.not_lt, -getElem?_pos, -List.getD_eq_getElem?_getD, noAt, setH])⟩
  refine ⟨fun hp0 => RLe.pure 3 (by rw [no (by omega)]; simp [-Bool.exists_bool, -Int.not_le, -Int.not_lt, -getElem?_pos, -List.getD_eq_getElem?_getD, noAt, setH]), fun hp0 => ⟨fun hp1 => RLe.pure 3 (by rw [no (by omega)]; simp [-Bool.exists_bool, -Int.not_le, -Int.not_lt, -getElem?_pos, -List.getD_eq_getElem?_getD, noAt, setH]), fun hp1 => ⟨fun hq0 => RLe.pure 3 (by rw [no (by omega)]; simp [-Bool.exists_bool, -Int.not_le, -Int.not_lt, -getElem?_pos, -List.getD_eq_getElem?_getD, noAt, setH]), fun hq0 => ⟨fun hq1 => RLe.pure 3 (by rw [no (by omega)]; simp [-Bool.exists_bool, -Int.not_le, -Int.not_lt, -getElem?_pos, -List.getD_eq_getElem?_getD, noAt, setH]), fun hq1 => ?_⟩⟩⟩⟩
  have hl' : a.1.length = b.1.length := by omega
  have pa := isAt_iff.1 ha
  have pb := isAt_iff.1 hb
  have hp' : 0 ≤ p ∧ p ≤ 400000000 := by omega
  have hq' : 0 ≤ q ∧ q ≤ 400000000 := by omega
  have mul : ∀ {x y : Int}, (0 ≤ x ∧ x ≤ 400000000) → isNum y = true → IntKind.wrap .i64 (x * y) = x * y ∧ (-160000000000000000 ≤ x * y ∧ x * y ≤ 160000000000000000) := fun {x y} h1 h2 => by
    have := mul_bd (a := x) ⟨by omega, h1.2⟩ (isNum_iff.1 h2)
    exact ⟨wr (by omega) (by omega), this⟩
  refine ⟨⟨by omega, by simp [-Bool.exists_bool, -Int.not_le, -Int.not_lt, -getElem?_pos, -List.getD_eq_getElem?_getD, maxLen]; omega⟩, ?_⟩
  refine WP.loopF mixed [] (fun i : Nat => ⟨tl [(1, I p), (3, I q), (4, .ptr (0, 0) 0), (6, .ptr (1, 0) 0), (8, .ptr (2, 0) 0), (10, .ref (38, 0) a.1.length), (49, .ref (38, 0) a.1.length), (50, I a.1.length), (51, I i)], hl [((0, 0), .box (aV a)), ((1, 0), .box (aV b)), ((2, 0), .box [.nil, I 0, B false]), ((38, 0), .row 3 a.1.length (dl ((mixs p a.1 q b.1 i).map (D.int .i64))))], 39⟩) (fun i => i ≤ a.1.length) (fun i => a.1.length - i) 0 (by kernel_rfl) ?_ ?_ ?_
  · refine Le.told [] ?_ ?_ ?_ <;> simp [-Bool.exists_bool, -Int.not_le, -Int.not_lt, -getElem?_pos, -List.getD_eq_getElem?_getD, setH, mixs, mixL, hl']
  · simp [-Bool.exists_bool, -Int.not_le, -Int.not_lt, -getElem?_pos, -List.getD_eq_getElem?_getD]
  · intro i hi
    by_cases h : i < a.1.length
    · have h2 : i < b.1.length := by omega
      have h1 : i + 1 ≤ (mixs p a.1 q b.1 i).length := by rw [mixs_len p a.1 q b.1 i hi hl']; exact h
      refine ⟨_, Le.refl _ _ _, ?_⟩
      simp -implicitDefEqProofs -dsimp +contextual [-Bool.exists_bool, -Int.not_le, -Int.not_lt, -getElem?_pos, -List.getD_eq_getElem?_getD, h, h2, h1]
      obtain ⟨e1, e2⟩ := mul hp' (pa.2.2.1 _ (nth_mem h))
      obtain ⟨e3, e4⟩ := mul hq' (pb.2.2.1 _ (nth_mem h2))
      rw [e1, e3, wr (x := p * nth a.1 i + q * nth b.1 i) (by omega) (by omega), wr (x := (i : Int) + 1) (by omega) (by omega)]
      refine ⟨i + 1, h, by omega, ?_⟩
      refine Le.told [] ?_ ?_ ?_ <;> simp [-Bool.exists_bool, -Int.not_le, -Int.not_lt, -getElem?_pos, -List.getD_eq_getElem?_getD]
      rw [← mixs_set p a.1 q b.1 i h h2 hl', List.map_set, List.set_eq_take_append_cons_drop, if_pos (by rw [List.length_map]; exact h1)]
    · obtain rfl : i = a.1.length := by omega
      have hT3 : (mixL p a.1 q b.1).length = a.1.length := by simp [-Bool.exists_bool, -Int.not_le, -Int.not_lt, -getElem?_pos, -List.getD_eq_getElem?_getD, mixL, hl']
      refine ⟨⟨tl [(1, I p), (3, I q), (4, .ptr (0, 0) 0), (6, .ptr (1, 0) 0), (8, .ptr (2, 0) 0), (10, .ref (38, 0) a.1.length), (49, .ref (38, 0) a.1.length), (50, I a.1.length), (51, I a.1.length)], hl [((0, 0), .box (aV a)), ((1, 0), .box (aV b)), ((2, 0), .box [.nil, I 0, B false]), ((38, 0), .fz a.1.length ((mixL p a.1 q b.1).map (D.int .i64)))], 39⟩, ?_, ?_⟩
      · refine Le.told [] ?_ ?_ ?_ <;> simp [-Bool.exists_bool, -Int.not_le, -Int.not_lt, -getElem?_pos, -List.getD_eq_getElem?_getD, mixs_end p a.1 q b.1 hl']
      simp -implicitDefEqProofs -dsimp +contextual [-Bool.exists_bool, -Int.not_le, -Int.not_lt, -getElem?_pos, -List.getD_eq_getElem?_getD, h]
      obtain ⟨e1, e2⟩ := mul hp' pa.2.1
      obtain ⟨e3, e4⟩ := mul hq' pb.2.1
      have e5 : IntKind.wrap .i64 (p * a.2.1 + q * b.2.1) = p * a.2.1 + q * b.2.1 := wr (by omega) (by omega)
      have h20 : (mixL p a.1 q b.1).length ≤ 1048576 := by omega
      have hkk : bd63 (p * a.2.1 + q * b.2.1) := ⟨by omega, by omega⟩
      have hmm : ∀ y ∈ mixL p a.1 q b.1, bd63 y := by
        intro y hy
        obtain ⟨k, hk, rfl⟩ := List.getElem_of_mem hy
        simp only [mixL, List.getElem_zipWith]
        simp [-Bool.exists_bool, -Int.not_le, -Int.not_lt, -getElem?_pos, -List.getD_eq_getElem?_getD, mixL] at hk
        have := (mul hp' (pa.2.2.1 a.1[k] (by simp [-Bool.exists_bool, -Int.not_le, -Int.not_lt, -getElem?_pos, -List.getD_eq_getElem?_getD]))).2
        have := (mul hq' (pb.2.2.1 b.1[k] (by simp [-Bool.exists_bool, -Int.not_le, -Int.not_lt, -getElem?_pos, -List.getD_eq_getElem?_getD]))).2
        constructor <;> omega
      have ec : mixAt a.1 a.2.1 a.2.2 p b.1 b.2.1 b.2.2 q = mkAt (mixL p a.1 q b.1) (p * a.2.1 + q * b.2.1) (a.2.2 && decide (0 < p) || b.2.2 && decide (0 < q)) := by
        unfold mixAt
        rw [if_pos]
        simp [-Bool.exists_bool, -Int.not_le, -Int.not_lt, -getElem?_pos, -List.getD_eq_getElem?_getD, ha, hb, hl', hp', hq']
      have w0 : IntKind.wrap .i64 0 = 0 := rfl
      have q0 : decide (0 < q) = !decide (q = 0) := by rw [← decide_not]; exact decide_eq_decide.2 (by omega)
      have p0 : p ≠ 0 → decide (0 < p) = true := fun h => decide_eq_true (by omega)
      refine ⟨fun hs => ⟨fun h0 => ⟨fun ht => ?_, fun ht => ?_⟩, fun h0 => ?_⟩, fun hs => ⟨fun ht => ?_, fun ht => ?_⟩⟩
      · subst h0
        refine CallJ.pure (ks := [(38, 0)]) (iMakeOf (mixL 0 a.1 q b.1) (0 * a.2.1 + q * b.2.1) (!decide (q = 0)) h20 hmm hkk) (by simp [-Bool.exists_bool, -Int.not_le, -Int.not_lt, -getElem?_pos, -List.getD_eq_getElem?_getD, hT3, e1, e3, e5, w0, ← hl']) (by simp [-Bool.exists_bool, -Int.not_le, -Int.not_lt, -getElem?_pos, -List.getD_eq_getElem?_getD]) ?_
        simp -implicitDefEqProofs -dsimp +contextual [-Bool.exists_bool, -Int.not_le, -Int.not_lt, -getElem?_pos, -List.getD_eq_getElem?_getD, h]
        refine RLe.pure 3 ?_
        have em : mixAt a.1 a.2.1 a.2.2 0 b.1 b.2.1 b.2.2 q = mkAt (mixL 0 a.1 q b.1) (0 * a.2.1 + q * b.2.1) (!decide (q = 0)) := by rw [ec]; congr 1; simp [-Bool.exists_bool, -Int.not_le, -Int.not_lt, -getElem?_pos, -List.getD_eq_getElem?_getD, ht, q0]
        simp [-Bool.exists_bool, -Int.not_le, -Int.not_lt, -getElem?_pos, -List.getD_eq_getElem?_getD, em, setH]
      · subst h0
        refine CallJ.pure (ks := [(38, 0)]) (iMakeOf (mixL 0 a.1 q b.1) (0 * a.2.1 + q * b.2.1) false h20 hmm hkk) (by simp [-Bool.exists_bool, -Int.not_le, -Int.not_lt, -getElem?_pos, -List.getD_eq_getElem?_getD, hT3, e1, e3, e5, w0, ← hl']) (by simp [-Bool.exists_bool, -Int.not_le, -Int.not_lt, -getElem?_pos, -List.getD_eq_getElem?_getD]) ?_
        simp -implicitDefEqProofs -dsimp +contextual [-Bool.exists_bool, -Int.not_le, -Int.not_lt, -getElem?_pos, -List.getD_eq_getElem?_getD, h]
        refine RLe.pure 3 ?_
        have em : mixAt a.1 a.2.1 a.2.2 0 b.1 b.2.1 b.2.2 q = mkAt (mixL 0 a.1 q b.1) (0 * a.2.1 + q * b.2.1) false := by rw [ec]; congr 1; simp [-Bool.exists_bool, -Int.not_le, -Int.not_lt, -getElem?_pos, -List.getD_eq_getElem?_getD, ht]
        simp [-Bool.exists_bool, -Int.not_le, -Int.not_lt, -getElem?_pos, -List.getD_eq_getElem?_getD, em, setH]
      · refine CallJ.pure (ks := [(38, 0)]) (iMakeOf (mixL p a.1 q b.1) (p * a.2.1 + q * b.2.1) true h20 hmm hkk) (by simp [-Bool.exists_bool, -Int.not_le, -Int.not_lt, -getElem?_pos, -List.getD_eq_getElem?_getD, hT3, e1, e3, e5, w0, ← hl']) (by simp [-Bool.exists_bool, -Int.not_le, -Int.not_lt, -getElem?_pos, -List.getD_eq_getElem?_getD]) ?_
        simp -implicitDefEqProofs -dsimp +contextual [-Bool.exists_bool, -Int.not_le, -Int.not_lt, -getElem?_pos, -List.getD_eq_getElem?_getD, h]
        refine RLe.pure 3 ?_
        have em : mixAt a.1 a.2.1 a.2.2 p b.1 b.2.1 b.2.2 q = mkAt (mixL p a.1 q b.1) (p * a.2.1 + q * b.2.1) true := by rw [ec]; congr 1; simp [-Bool.exists_bool, -Int.not_le, -Int.not_lt, -getElem?_pos, -List.getD_eq_getElem?_getD, hs, p0 h0]
        simp [-Bool.exists_bool, -Int.not_le, -Int.not_lt, -getElem?_pos, -List.getD_eq_getElem?_getD, em, setH]
      · refine CallJ.pure (ks := [(38, 0)]) (iMakeOf (mixL p a.1 q b.1) (p * a.2.1 + q * b.2.1) (!decide (q = 0)) h20 hmm hkk) (by simp [-Bool.exists_bool, -Int.not_le, -Int.not_lt, -getElem?_pos, -List.getD_eq_getElem?_getD, hT3, e1, e3, e5, w0, ← hl']) (by simp [-Bool.exists_bool, -Int.not_le, -Int.not_lt, -getElem?_pos, -List.getD_eq_getElem?_getD]) ?_
        simp -implicitDefEqProofs -dsimp +contextual [-Bool.exists_bool, -Int.not_le, -Int.not_lt, -getElem?_pos, -List.getD_eq_getElem?_getD, h]
        refine RLe.pure 3 ?_
        have em : mixAt a.1 a.2.1 a.2.2 p b.1 b.2.1 b.2.2 q = mkAt (mixL p a.1 q b.1) (p * a.2.1 + q * b.2.1) (!decide (q = 0)) := by rw [ec]; congr 1; simp [-Bool.exists_bool, -Int.not_le, -Int.not_lt, -getElem?_pos, -List.getD_eq_getElem?_getD, hs, ht, q0]
        simp [-Bool.exists_bool, -Int.not_le, -Int.not_lt, -getElem?_pos, -List.getD_eq_getElem?_getD, em, setH]
      · refine CallJ.pure (ks := [(38, 0)]) (iMakeOf (mixL p a.1 q b.1) (p * a.2.1 + q * b.2.1) false h20 hmm hkk) (by simp [-Bool.exists_bool, -Int.not_le, -Int.not_lt, -getElem?_pos, -List.getD_eq_getElem?_getD, hT3, e1, e3, e5, w0, ← hl']) (by simp [-Bool.exists_bool, -Int.not_le, -Int.not_lt, -getElem?_pos, -List.getD_eq_getElem?_getD]) ?_
        simp -implicitDefEqProofs -dsimp +contextual [-Bool.exists_bool, -Int.not_le, -Int.not_lt, -getElem?_pos, -List.getD_eq_getElem?_getD, h]
        refine RLe.pure 3 ?_
        have em : mixAt a.1 a.2.1 a.2.2 p b.1 b.2.1 b.2.2 q = mkAt (mixL p a.1 q b.1) (p * a.2.1 + q * b.2.1) false := by rw [ec]; congr 1; simp [-Bool.exists_bool, -Int.not_le, -Int.not_lt, -getElem?_pos, -List.getD_eq_getElem?_getD, hs, ht]
        simp [-Bool.exists_bool, -Int.not_le, -Int.not_lt, -getElem?_pos, -List.getD_eq_getElem?_getD, em, setH]
end Go.Proofs.YtjknjekemolndaaGreat.ZL
namespace Go.Proofs.YtjknjekemolndaaGreat.ZL
open Go Go.Proofs.YtjknjekemolndaaGreat.Abs Go.Proofs.YtjknjekemolndaaGreat.Abs.Pl Go.RowKit Go.Proofs
set_option linter.unusedVariables false
set_option linter.unusedSimpArgs false
theorem iIsCell (d : Int) (L : List At) (h20 : L.length ≤ 1048576) : Cn Tryz.prog 51 [C1 d L] (B (isCe d L)) hemp := by
  refine Cn.of [] mixed Tryz.func51 rfl Tryz.call51 (by kernel_rfl) rfl ?_
  simp -implicitDefEqProofs -dsimp +contextual [-Bool.exists_bool, -Int.not_le, -Int.not_lt, -getElem?_pos, -List.getD_eq_getElem?_getD, Tryz.f51]
  have no : ¬ (0 ≤ d ∧ d ≤ 4 ∧ L.length ≤ 16) → isCe d L = false := fun h => by
    rw [Bool.eq_false_iff]
    intro hc
    have := okCe.1 hc
    exact h ⟨this.1.1, this.1.2, this.2.1⟩
  refine ⟨fun h0 => RLe.bb (by rw [no (by omega)]), fun h0 => ⟨fun h1 => RLe.bb (by rw [no (by omega)]), fun h1 => ⟨fun h2 => RLe.bb (by rw [no (by omega)]), fun h2 => ?_⟩⟩⟩
  refine WP.loop mixed [] (fun i : Nat => ⟨tl [(1, .ptr (0, 0) 0), (20, As L), (21, I L.length), (22, I i)], hl [((0, 0), .box [I d, As L])], 3⟩) (fun i => i ≤ L.length ∧ isCe d L = ((decide (0 ≤ d) && decide (d ≤ 4)) && decide (L.length ≤ 16) && (L.drop i).all fun a => isAt a.1 a.2.1 && decide ((a.1.length : Int) = d))) (fun p => L.length - p) 0 (by kernel_rfl) ?_ ?_ ?_
  · refine Le.told [] ?_ ?_ ?_ <;> simp [-Bool.exists_bool, -Int.not_le, -Int.not_lt, -getElem?_pos, -List.getD_eq_getElem?_getD]
  · simp [-Bool.exists_bool, -Int.not_le, -Int.not_lt, -getElem?_pos, -List.getD_eq_getElem?_getD, isCe]
  · rintro i ⟨hi, he⟩
    simp -implicitDefEqProofs -dsimp +contextual [-Bool.exists_bool, -Int.not_le, -Int.not_lt, -getElem?_pos, -List.getD_eq_getElem?_getD]
    refine ⟨fun h => ?_, fun h => ?_⟩
    · refine CallJ.pure (iIsAtom (nth L i)) rfl (by simp [-Bool.exists_bool, -Int.not_le, -Int.not_lt, -getElem?_pos, -List.getD_eq_getElem?_getD]) ?_
      simp -implicitDefEqProofs -dsimp +contextual [-Bool.exists_bool, -Int.not_le, -Int.not_lt, -getElem?_pos, -List.getD_eq_getElem?_getD, h]
      rw [nth_drop h, List.all_cons] at he
      refine ⟨fun ha => ⟨fun hn => ?_, fun hn => RLe.bb ?_⟩, fun ha => RLe.bb ?_⟩
      · refine ⟨i + 1, ⟨h, ?_⟩, by omega, ?_⟩
        · rw [he, ha]; simp [-Bool.exists_bool, -Int.not_le, -Int.not_lt, -getElem?_pos, -List.getD_eq_getElem?_getD, hn]
        · refine Le.told [] ?_ ?_ ?_ <;> simp [-Bool.exists_bool, -Int.not_le, -Int.not_lt, -getElem?_pos, -List.getD_eq_getElem?_getD, wr (x := (i : Int) + 1) (by omega) (by omega)]
      · rw [he, ha]; simp [-Bool.exists_bool, -Int.not_le, -Int.not_lt, -getElem?_pos, -List.getD_eq_getElem?_getD, hn]
      · rw [he, ha]; simp [-Bool.exists_bool, -Int.not_le, -Int.not_lt, -getElem?_pos, -List.getD_eq_getElem?_getD]
    · rw [drop_nil (by omega)] at he
      refine RLe.bb ?_
      rw [he]
      simp [-Bool.exists_bool, -Int.not_le, -Int.not_lt, -getElem?_pos, -List.getD_eq_getElem?_getD]
      omega
theorem iIsRegion (d : Int) (L : List Ce) (h20 : L.length ≤ 1048576) (hc : ∀ c ∈ L, c.2.length ≤ 1048576) : Cn Tryz.prog 66 [R1 d L] (B (isRe d L)) hemp := by
  refine Cn.of [] mixed Tryz.func66 rfl Tryz.call66 (by kernel_rfl) rfl ?_
  simp -implicitDefEqProofs -dsimp +contextual [-Bool.exists_bool, -Int.not_le, -Int.not_lt, -getElem?_pos, -List.getD_eq_getElem?_getD, Tryz.f66]
  have no : ¬ (0 ≤ d ∧ d ≤ 4 ∧ L.length ≤ 12) → isRe d L = false := fun h => by
    rw [Bool.eq_false_iff]
    intro hc
    simp only [isRe, Bool.and_eq_true, decide_eq_true_eq] at hc
    exact h ⟨hc.1.1.1, hc.1.1.2, hc.1.2⟩
  refine ⟨fun h0 => RLe.bb (by rw [no (by omega)]), fun h0 => ⟨fun h1 => RLe.bb (by rw [no (by omega)]), fun h1 => ⟨fun h2 => RLe.bb (by rw [no (by omega)]), fun h2 => ?_⟩⟩⟩
  refine WP.loop mixed [] (fun i : Nat => ⟨tl [(1, .ptr (0, 0) 0), (20, Cs L), (21, I L.length), (22, I i)], hl [((0, 0), .box [I d, Cs L])], 3⟩) (fun i => i ≤ L.length ∧ isRe d L = ((decide (0 ≤ d) && decide (d ≤ 4)) && decide (L.length ≤ 12) && (L.drop i).all fun c => isCe c.1 c.2 && decide (c.1 = d))) (fun p => L.length - p) 0 (by kernel_rfl) ?_ ?_ ?_
  · refine Le.told [] ?_ ?_ ?_ <;> simp [-Bool.exists_bool, -Int.not_le, -Int.not_lt, -getElem?_pos, -List.getD_eq_getElem?_getD]
  · simp [-Bool.exists_bool, -Int.not_le, -Int.not_lt, -getElem?_pos, -List.getD_eq_getElem?_getD, isRe]
  · rintro i ⟨hi, he⟩
    simp -implicitDefEqProofs -dsimp +contextual [-Bool.exists_bool, -Int.not_le, -Int.not_lt, -getElem?_pos, -List.getD_eq_getElem?_getD]
    refine ⟨fun h => ?_, fun h => ?_⟩
    · refine CallJ.pure (iIsCell (nth L i).1 (nth L i).2 (hc _ (nth_mem h))) rfl (by simp [-Bool.exists_bool, -Int.not_le, -Int.not_lt, -getElem?_pos, -List.getD_eq_getElem?_getD]) ?_
      simp -implicitDefEqProofs -dsimp +contextual [-Bool.exists_bool, -Int.not_le, -Int.not_lt, -getElem?_pos, -List.getD_eq_getElem?_getD, h]
      rw [nth_drop h, List.all_cons] at he
      refine ⟨fun ha => ⟨fun hn => ?_, fun hn => RLe.bb ?_⟩, fun ha => RLe.bb ?_⟩
      · refine ⟨i + 1, ⟨h, ?_⟩, by omega, ?_⟩
        · rw [he, ha]; simp [-Bool.exists_bool, -Int.not_le, -Int.not_lt, -getElem?_pos, -List.getD_eq_getElem?_getD, hn]
        · refine Le.told [] ?_ ?_ ?_ <;> simp [-Bool.exists_bool, -Int.not_le, -Int.not_lt, -getElem?_pos, -List.getD_eq_getElem?_getD, wr (x := (i : Int) + 1) (by omega) (by omega)]
      · rw [he, ha]; simp [-Bool.exists_bool, -Int.not_le, -Int.not_lt, -getElem?_pos, -List.getD_eq_getElem?_getD, hn]
      · rw [he, ha]; simp [-Bool.exists_bool, -Int.not_le, -Int.not_lt, -getElem?_pos, -List.getD_eq_getElem?_getD]
    · rw [drop_nil (by omega)] at he
      refine RLe.bb ?_
      rw [he]
      simp [-Bool.exists_bool, -Int.not_le, -Int.not_lt, -getElem?_pos, -List.getD_eq_getElem?_getD]
      omega
end Go.Proofs.YtjknjekemolndaaGreat.ZL
namespace Go.Proofs.YtjknjekemolndaaGreat.ZL
open Go Go.Proofs.YtjknjekemolndaaGreat.Abs Go.Proofs.YtjknjekemolndaaGreat.Abs.Pl Go.RowKit Go.Proofs
set_option linter.unusedVariables false
set_option linter.unusedSimpArgs false
def rowA (a : At) : Ent := .row 3 a.1.length (dl (a.1.map (.int .i64)))
def ownA (L : List At) (j : Nat) : Option Ent := (L[j]?).map rowA
def rA (f : Nat → Key) : Nat → List At → List V
  | _, [] => []
  | j, a :: L => .ref (f j) a.1.length :: I a.2.1 :: B a.2.2 :: rA f (j + 1) L
def famS (s : Nat) (g : Nat → Option Ent) (H : Store) : Store := fun k => if k.1 = s then g k.2 else H k
def invF (s : Nat) (f : Nat → Key) (iv : List (Key × Key)) (k : Key) : Key := if k.1 = s then f k.2 else invK iv k
def ownR (R : List At) : Store := fun k => if k.1 = 0 then (match k.2 with
    | 0 => some (.row 66 R.length (rA (fun j => (0, j + 1)) 0 R))
    | j + 1 => ownA R j) else none
theorem ownA_lt {L : List At} {j : Nat} (h : j < L.length) : ownA L j = some (rowA (nth L j)) := by rw [ownA, nth_some h]; rfl
theorem ownA_some {L : List At} {j : Nat} {e : Ent} (h : ownA L j = some e) : j < L.length ∧ e = rowA (nth L j) := by
  unfold ownA at h
  rcases Nat.lt_or_ge j L.length with hj | hj
  · rw [nth_some hj] at h; exact ⟨hj, (Option.some.inj h).symm⟩
  · rw [List.getElem?_eq_none hj] at h; exact absurd h (by simp)
theorem rA_len (f : Nat → Key) : ∀ (L : List At) (j : Nat), (rA f j L).length = L.length * 3
  | [], _ => rfl
  | a :: L, j => by simp [rA, rA_len f L]; omega
theorem rA_append (f : Nat → Key) : ∀ (L M : List At) (j : Nat), rA f j (L ++ M) = rA f j L ++ rA f (j + L.length) M
  | [], M, j => by simp [rA]
  | a :: L, M, j => by
    simp only [List.cons_append, rA, rA_append f L, List.length_cons]
    rw [show j + 1 + L.length = j + (L.length + 1) by omega]
theorem rA_dropE (f : Nat → Key) : ∀ (L : List At) (i j : Nat), (rA f j L).drop (i * 3) = rA f (j + i) (L.drop i)
  | [], i, j => by simp [rA]
  | a :: L, 0, j => by simp
  | a :: L, i + 1, j => by
    rw [show (i + 1) * 3 = i * 3 + 3 by omega, rA, List.drop_succ_cons, List.drop_succ_cons, List.drop_succ_cons, rA_dropE f L i (j + 1), List.drop_succ_cons]
    rw [show j + 1 + i = j + (i + 1) by omega]
theorem rA_take (f : Nat → Key) : ∀ (L : List At) (i j : Nat), (rA f j L).take (i * 3) = rA f j (L.take i)
  | [], i, j => by simp [rA]
  | a :: L, 0, j => by simp [rA]
  | a :: L, i + 1, j => by
    rw [show (i + 1) * 3 = i * 3 + 3 by omega, rA, List.take_succ_cons, List.take_succ_cons, List.take_succ_cons, rA_take f L i (j + 1), List.take_succ_cons, rA]
theorem rA_nth (f : Nat → Key) (L : List At) (i j : Nat) (h : i < L.length) : (rA f j L).drop (i * 3) = .ref (f (j + i)) (nth L i).1.length :: I (nth L i).2.1 :: B (nth L i).2.2 :: rA f (j + i + 1) (L.drop (i + 1)) := by
  rw [rA_dropE, nth_drop h]; rfl
theorem rA_cut (f : Nat → Key) (L : List At) (i j : Nat) (h : i < L.length) : ((rA f j L).drop (i * 3)).take 3 = [.ref (f (j + i)) (nth L i).1.length, I (nth L i).2.1, B (nth L i).2.2] := by
  rw [rA_nth f L i j h]; rfl
theorem rA_cutD (f : Nat → Key) (L : List At) (i j : Nat) (h : i < L.length) : (rA f (j + i) (L.drop i)).take 3 = [.ref (f (j + i)) (nth L i).1.length, I (nth L i).2.1, B (nth L i).2.2] := by
  rw [← rA_dropE]; exact rA_cut f L i j h
theorem rA_cut0 (f : Nat → Key) (L : List At) (i : Nat) (h : i < L.length) : (rA f i (L.drop i)).take 3 = [.ref (f i) (nth L i).1.length, I (nth L i).2.1, B (nth L i).2.2] := by
  have := rA_cutD f L i 0 h
  rwa [Nat.zero_add] at this
theorem rA_one (f : Nat → Key) : ∀ (L : List At) (j : Nat), (rA f j L).all V.one = true
  | [], _ => rfl
  | a :: L, j => by simp [rA, rA_one f L, V.one]
theorem rA_congr {f g : Nat → Key} : ∀ (L : List At) (j : Nat), (∀ i, i < L.length → f (j + i) = g (j + i)) → rA f j L = rA g j L
  | [], _, _ => rfl
  | a :: L, j, h => by
    have h0 := h 0 (by simp)
    simp only [Nat.add_zero] at h0
    have ih := rA_congr (f := f) (g := g) L (j + 1) (fun i hi => by have := h (i + 1) (by simp; omega); rw [show j + (i + 1) = j + 1 + i by omega] at this; exact this)
    simp only [rA, h0, ih]
theorem rA_mapL (g : Key → Key) (f : Nat → Key) : ∀ (L : List At) (j : Nat), mapL g (rA f j L) = rA (fun i => g (f i)) j L
  | [], _ => rfl
  | a :: L, j => by simp [rA, rA_mapL g f L]
theorem VLes_app {H : Store} {inv : Key → Key} {nx : Nat} : ∀ {a c b d : List V}, VLes H inv nx a c → VLes H inv nx b d → VLes H inv nx (a ++ b) (c ++ d)
  | [], [], b, d, _, h => h
  | [], x :: c, b, d, h, _ => by simp [VLes] at h
  | v :: a, [], b, d, h, _ => by simp [VLes] at h
  | v :: a, x :: c, b, d, h, h2 => by
    simp only [VLes, List.cons_append] at h ⊢
    exact ⟨h.1, VLes_app h.2 h2⟩
theorem rA_VLes {H : Store} {inv : Key → Key} {nx : Nat} {f g : Nat → Key} : ∀ (L : List At) (j : Nat), (∀ i, i < L.length → f (j + i) = inv (g (j + i)) ∧ (g (j + i)).1 < nx) → VLes H inv nx (rA f j L) (rA g j L)
  | [], _, _ => by simp [rA, VLes]
  | a :: L, j, h => by
    have h0 := h 0 (by simp)
    simp only [Nat.add_zero] at h0
    simp only [rA, VLes, VLe, asDz]
    exact ⟨⟨by rw [h0.1], h0.2⟩, trivial, trivial, rA_VLes L (j + 1) (fun i hi => by have := h (i + 1) (by simp; omega); rwa [show j + (i + 1) = j + 1 + i by omega] at this)⟩
theorem rA_lend {H : Store} {n : Nat} {f : Nat → Key} : ∀ (L : List At) (j : Nat), (∀ i, i < L.length → H (f (j + i)) = some (rowA (nth L i))) → joinO ((rA f j L).map (lendD true H (n + 1))) = some (asD L, (List.range L.length).map fun i => f (j + i))
  | [], _, _ => rfl
  | a :: L, j, h => by
    have h0 := h 0 (by simp)
    simp only [Nat.add_zero] at h0
    have ih := rA_lend (H := H) (n := n) (f := f) L (j + 1) (fun i hi => by have := h (i + 1) (by simp; omega); rw [show j + (i + 1) = j + 1 + i by omega] at this; exact this)
    have e0 : nth (a :: L) 0 = a := rfl
    rw [e0] at h0
    simp only [rA, List.map_cons, joinO, ih, lendD_ref, h0, lendR, rowA, dl_joinO, consK, lendD_d]
    simp [asD, aD, List.range_succ_eq_map, consK, Function.comp_def]
    intro i hi
    rw [show j + 1 + i = j + (i + 1) by omega]
theorem fam_at (s : Nat) (g : Nat → Option Ent) (H : Store) (j : Nat) : famS s g H (s, j) = g j := by simp [famS]
theorem fam_ne (s : Nat) (g : Nat → Option Ent) (H : Store) (a b : Nat) (h : a ≠ s) : famS s g H (a, b) = H (a, b) := by simp [famS, h]
section
variable {P : Program} {N : Nat}
theorem Le.fam {T : Nat → V} {H : Store} {nx : Nat} {Lt : List (Nat × V)} {K : List (Key × Ent)} {nx' : Nat} (s : Nat) (L : List At) (f : Nat → Key) (iv : List (Key × Key))
    (hT : allP (fun p : Nat × V => VLe H (invF s f iv) nx' (T p.1) p.2) Lt)
    (hK : allP (fun p : Key × Ent => (p.1.1 < nx' ∧ p.1.1 ≠ s) ∧ entIs (H (invK iv p.1)) fun e => ELe H (invF s f iv) nx' e p.2) K)
    (hi : (K.map fun p => invK iv p.1).Nodup) (hF : ∀ j, j < L.length → H (f j) = some (rowA (nth L j)))
    (hf : ∀ i j, i < L.length → j < L.length → f i = f j → i = j) (hd : ∀ j, j < L.length → allP (fun p : Key × Ent => invK iv p.1 ≠ f j) K)
    (hs : 0 < s ∧ s < nx' := by decide) (hv : iv.all (fun p => p.1.1 != 0 || p.1.2 == 0) = true := by rfl) : Le P N ⟨T, H, nx⟩ ⟨tl Lt, famS s (ownA L) (hl K), nx'⟩ := by
  have inK : ∀ k e', k.1 ≠ s → famS s (ownA L) (hl K) k = some e' → (k, e') ∈ K := fun k e' hk h => by
    obtain ⟨a, b⟩ := k
    rw [fam_ne _ _ _ _ _ hk] at h
    exact hl_mem h
  have inF : ∀ k e', k.1 = s → famS s (ownA L) (hl K) k = some e' → k.2 < L.length ∧ e' = rowA (nth L k.2) := fun k e' hk h => by
    obtain ⟨a, b⟩ := k
    simp only at hk
    subst hk
    rw [fam_at] at h
    exact ownA_some h
  have hne : ∀ k : Key, k.1 ≠ s → invF s f iv k = invK iv k := fun k hk => by unfold invF; rw [if_neg hk]
  have hat : ∀ k : Key, k.1 = s → invF s f iv k = f k.2 := fun k hk => by unfold invF; rw [if_pos hk]
  refine Le.mk (invF s f iv) (.inr (by show 0 < nx'; omega)) (fun k h1 h2 _ => by rw [hne k (by omega)]; exact invK_res hv k h1 h2) (tl_cond (allP_mem hT)) (fun k e' hk => ?_) (fun k k' e e' hk hk' he => ?_)
  · by_cases hks : k.1 = s
    · obtain ⟨h1, rfl⟩ := inF k e' hks hk
      refine ⟨by show k.1 < nx'; omega, rowA (nth L k.2), by rw [hat k hks]; exact hF _ h1, ?_⟩
      simp only [rowA, ELe, true_and]
      exact (dl_VLes ..).2 rfl
    · obtain ⟨⟨h1, _⟩, h2⟩ := allP_mem hK _ (inK k e' hks hk)
      simp only [entIs] at h2
      refine ⟨h1, ?_⟩
      rw [hne k hks]
      show ∃ e, H (invK iv k) = some e ∧ _
      cases hq : H (invK iv k) with
      | none => rw [hq] at h2; exact h2.elim
      | some e => rw [hq] at h2; exact ⟨e, rfl, h2⟩
  · by_cases hks : k.1 = s <;> by_cases hks' : k'.1 = s
    · rw [hat k hks, hat k' hks'] at he
      exact Prod.ext (hks.trans hks'.symm) (hf _ _ (inF k e hks hk).1 (inF k' e' hks' hk').1 he)
    · rw [hat k hks, hne k' hks'] at he
      exact absurd he.symm (allP_mem (hd _ (inF k e hks hk).1) _ (inK k' e' hks' hk'))
    · rw [hne k hks, hat k' hks'] at he
      exact absurd he (allP_mem (hd _ (inF k' e' hks' hk').1) _ (inK k e hks hk))
    · rw [hne k hks, hne k' hks'] at he
      have := nodup_told hi _ (inK k e hks hk) _ (inK k' e' hks' hk') he
      injection this
def fPush (s n : Nat) (kc : Key) (j : Nat) : Key := if j < n then (s, j) else kc
theorem push_VLes {H : Store} {iv : List (Key × Key)} {nx s : Nat} (K : List At) (a : At) (kc : Key) (hs : s < nx) : VLes H (invF s (fPush s K.length kc) iv) nx (rA (fun j => (s, j)) 0 K ++ [.ref kc a.1.length, I a.2.1, B a.2.2]) (rA (fun j => (s, j)) 0 (K ++ [a])) := by
  rw [rA_append]
  refine VLes_app (rA_VLes K 0 fun i hi => ⟨?_, hs⟩) ?_
  · simp [invF, fPush, hi]
  · simp [rA, VLes, VLe, asDz, invF, fPush, hs]
theorem push_F {H : Store} {s : Nat} {K : List At} {a : At} {kc : Key} (h : ∀ j, j < K.length → H (s, j) = some (rowA (nth K j))) (hk : H kc = some (rowA a)) : ∀ j, j < (K ++ [a]).length → H (fPush s K.length kc j) = some (rowA (nth (K ++ [a]) j)) := fun j hj => by
  unfold fPush
  by_cases h1 : j < K.length
  · rw [if_pos h1, h j h1, nth_eq h1, nth_eq hj, List.getElem_append_left h1]
  · have h2 : j = K.length := by simp at hj; omega
    subst h2
    rw [if_neg h1, hk, nth_eq hj]
    simp
theorem push_inj {s : Nat} {K : List At} {a : At} {kc : Key} (hk : kc.1 ≠ s) : ∀ i j, i < (K ++ [a]).length → j < (K ++ [a]).length → fPush s K.length kc i = fPush s K.length kc j → i = j := fun i j hi hj h => by
  simp at hi hj
  unfold fPush at h
  split at h <;> split at h
  · injection h
  · exact absurd (by rw [← h]) hk
  · exact absurd (by rw [h]) hk
  · omega
def invO (k0 : Key) (f : Nat → Key) (k : Key) : Key := match k.2 with
  | 0 => k0
  | j + 1 => f j
theorem RLe.own {H : Store} {v r : V} (k0 : Key) (f : Nat → Key) (R : List At) (hv : VLe H (invO k0 f) 1 v r) (h0 : H k0 = some (.row 66 R.length (rA f 0 R))) (hF : ∀ j, j < R.length → H (f j) = some (rowA (nth R j)))
    (hf : ∀ i j, i < R.length → j < R.length → f i = f j → i = j) (hd : ∀ j, j < R.length → k0 ≠ f j) : RLe P H v r (ownR R) := by
  refine RLe.mk (invO k0 f) hv (fun k e' hk => ?_) (fun k k' e e' hk hk' he => ?_)
  · obtain ⟨a, b⟩ := k
    unfold ownR at hk
    simp only at hk
    split at hk
    · rename_i ha
      subst ha
      refine ⟨Nat.zero_lt_one, ?_⟩
      cases b with
      | zero =>
        simp only [Option.some.injEq] at hk
        subst hk
        refine ⟨_, h0, ?_⟩
        simp only [ELe, true_and]
        exact rA_VLes R 0 fun i hi => ⟨by rw [Nat.zero_add]; rfl, Nat.zero_lt_one⟩
      | succ j =>
        simp only at hk
        obtain ⟨h1, rfl⟩ := ownA_some hk
        refine ⟨rowA (nth R j), hF j h1, ?_⟩
        simp only [rowA, ELe, true_and]
        exact (dl_VLes ..).2 rfl
    · exact absurd hk (by simp)
  · obtain ⟨a, b⟩ := k
    obtain ⟨a', b'⟩ := k'
    unfold ownR at hk hk'
    simp only at hk hk' he
    split at hk
    · rename_i ha
      split at hk'
      · rename_i ha'
        subst ha ha'
        cases b with
        | zero =>
          cases b' with
          | zero => rfl
          | succ j => exact absurd he (hd j (ownA_some hk').1)
        | succ i =>
          cases b' with
          | zero => exact absurd he.symm (hd i (ownA_some hk).1)
          | succ j => rw [hf i j (ownA_some hk).1 (ownA_some hk').1 he]
      · exact absurd hk' (by simp)
    · exact absurd hk (by simp)
theorem RLe.pass {H : Store} {v r : V} (s : Nat) (R : List At) (hv : VLe H (invO (s, 0) fun j => (s, j + 1)) 1 v r) (h0 : H (s, 0) = some (.row 66 R.length (rA (fun j => (s, j + 1)) 0 R))) (hF : ∀ j, j < R.length → H (s, j + 1) = some (rowA (nth R j))) : RLe P H v r (ownR R) :=
  RLe.own (s, 0) (fun j => (s, j + 1)) R hv h0 hF (fun i j _ _ h => by injection h with _ h; omega) (fun j _ => by simp)
theorem upOwn_0 (s : Nat) (R : List At) (H : Store) : app (upCall s (ownR R)) H (s, 0) = some (.row 66 R.length (rA (fun j => (s, j + 1)) 0 R)) := by
  simp [app, upCall, ownR, mapE, rA_mapL, atS]
theorem upOwn_j (s : Nat) (R : List At) (H : Store) (j : Nat) (h : j < R.length) : app (upCall s (ownR R)) H (s, j + 1) = some (rowA (nth R j)) := by
  simp [app, upCall, ownR, ownA_lt h, mapE, rowA]
theorem upOwn_ne (s : Nat) (R : List At) (H : Store) (a b : Nat) (h : a ≠ s) : app (upCall s (ownR R)) H (a, b) = H (a, b) := by
  simp [app, upCall, h]
attribute [simp] fam_at fam_ne rA_len rA_one rA_dropE rA_take upOwn_0 upOwn_ne
theorem own_lend (R : List At) : lendD true (ownR R) 2 (.ref (0, 0) R.length) = some (.sl R.length (asD R), (0, 0) :: (List.range R.length).map fun i => (0, 0 + i + 1)) := by
  rw [lendD_ref]
  have h0 : ownR R (0, 0) = some (.row 66 R.length (rA (fun j => (0, j + 1)) 0 R)) := rfl
  rw [h0]
  simp only [lendR, rA_lend (H := ownR R) (n := 0) (f := fun j => (0, j + 1)) R 0 (fun i hi => by rw [Nat.zero_add]; exact ownA_lt hi), consK]
  simp
end
end Go.Proofs.YtjknjekemolndaaGreat.ZL
