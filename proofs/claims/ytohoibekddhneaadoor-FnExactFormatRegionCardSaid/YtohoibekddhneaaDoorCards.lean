/-
  DERIVED. GIVEN WITH THE SEED: THE CARDS: each row of YtohoibekddhneaaDoorRows.lean that lists a variable, with what it lists TIED to the program's text (the seventh form; the later family's looks); each row that meets fmt, with fmt's text TOLD by the authors' own Lean function (tested against real Go, not proved from fmt's source: count such statements apart). THE CARD IS WHAT COUNTS. Prove the row's statement (the work); the ties are given (YtohoibekddhneaaDoorTie.lean); close each card by the builder's one call (the guide's Derived/Test/ToyasCard.lean, 'card_holds'). Laid BY PROGRAM, IN A SANDBOX (cutbox-door.mjs). By AI agents, Wed Nov 11 2026. No macro, syntax, notation, axiom, sorry.
-/
import Derived.Test.YtohoibekddhneaaDoorRows
import GoSem.ClaimSeven
namespace Go.Proofs.YtohoibekddhneaaDoor
namespace Rows

/-- THE TIED CARD OF 'laws.FnExactFormatAtom'. -/
def fnExactFormatAtomCard : Claim7 := { stood := { row := fnExactFormatAtomRow, standIns := [], harness := (true, "7a185c75a9e942c4deccd64a3e0465e3885f11ce73f98908bbdcbe3548678b0b"), looks := true }, kinds := [], alts := [], laidByText := true, laidKinds := [.data, .data, .data], laidTests := true, laidLooks := .later }
def FnExactFormatAtomCardSaid : Prop := Claim7.holds Tryd.pinned (.plain (OpenSpec.ofChange fnExactFormatAtomSpec)) fnExactFormatAtomCard

/-- THE TIED CARD OF 'laws.FnExactParseInt'. -/
def fnExactParseIntCard : Claim7 := { stood := { row := fnExactParseIntRow, standIns := [], harness := (true, "7a185c75a9e942c4deccd64a3e0465e3885f11ce73f98908bbdcbe3548678b0b"), looks := true }, kinds := [], alts := [], laidByText := true, laidKinds := [.data, .data, .data, .sentinel, .sentinel], laidTests := true, laidLooks := .later }
def FnExactParseIntCardSaid : Prop := Claim7.holds Tryd.pinned (.plain (OpenSpec.ofChange fnExactParseIntSpec)) fnExactParseIntCard

/-- THE TIED CARD OF 'laws.FnExactFormatCell'. -/
def fnExactFormatCellCard : Claim7 := { stood := { row := fnExactFormatCellRow, standIns := [], harness := (true, "7a185c75a9e942c4deccd64a3e0465e3885f11ce73f98908bbdcbe3548678b0b"), looks := true }, kinds := [], alts := [], laidByText := true, laidKinds := [.data, .data, .data], laidTests := true, laidLooks := .later }
def FnExactFormatCellCardSaid : Prop := Claim7.holds Tryd.pinned (.plain (OpenSpec.ofChange fnExactFormatCellSpec)) fnExactFormatCellCard

/-- THE TIED CARD OF 'laws.FnExactParseRatio'. -/
def fnExactParseRatioCard : Claim7 := { stood := { row := fnExactParseRatioRow, standIns := [], harness := (true, "7a185c75a9e942c4deccd64a3e0465e3885f11ce73f98908bbdcbe3548678b0b"), looks := true }, kinds := [], alts := [], laidByText := true, laidKinds := [.data, .data, .data, .sentinel, .sentinel], laidTests := true, laidLooks := .later }
def FnExactParseRatioCardSaid : Prop := Claim7.holds Tryd.pinned (.plain (OpenSpec.ofChange fnExactParseRatioSpec)) fnExactParseRatioCard

/-- THE TIED CARD OF 'laws.FnExactFormatRegion'. -/
def fnExactFormatRegionCard : Claim7 := { stood := { row := fnExactFormatRegionRow, standIns := [], harness := (true, "7a185c75a9e942c4deccd64a3e0465e3885f11ce73f98908bbdcbe3548678b0b"), looks := true }, kinds := [], alts := [], laidByText := true, laidKinds := [.data, .data, .data], laidTests := true, laidLooks := .later }
def FnExactFormatRegionCardSaid : Prop := Claim7.holds Tryd.pinned (.plain (OpenSpec.ofChange fnExactFormatRegionSpec)) fnExactFormatRegionCard

/-- THE TIED CARD OF 'laws.FnRatios'. -/
def fnRatiosCard : Claim7 := { stood := { row := fnRatiosRow, standIns := [], harness := (true, "7a185c75a9e942c4deccd64a3e0465e3885f11ce73f98908bbdcbe3548678b0b"), looks := true }, kinds := [], alts := [], laidByText := true, laidKinds := [.data, .data, .data, .sentinel, .sentinel], laidTests := true, laidLooks := .later }
def FnRatiosCardSaid : Prop := Claim7.holds Tryd.pinned (.plain (OpenSpec.ofChange fnRatiosSpec)) fnRatiosCard

/-- THE TIED CARD OF 'laws.FnExactParseAtom'. -/
def fnExactParseAtomCard : Claim7 := { stood := { row := fnExactParseAtomRow, standIns := [], harness := (true, "7a185c75a9e942c4deccd64a3e0465e3885f11ce73f98908bbdcbe3548678b0b"), looks := true }, kinds := [], alts := [], laidByText := true, laidKinds := [.data, .data, .data, .sentinel, .sentinel], laidTests := true, laidLooks := .later }
def FnExactParseAtomCardSaid : Prop := Claim7.holds Tryd.pinned (.plain (OpenSpec.ofChange fnExactParseAtomSpec)) fnExactParseAtomCard

/-- THE TIED CARD OF 'laws.FnAtoms'. -/
def fnAtomsCard : Claim7 := { stood := { row := fnAtomsRow, standIns := [], harness := (true, "7a185c75a9e942c4deccd64a3e0465e3885f11ce73f98908bbdcbe3548678b0b"), looks := true }, kinds := [], alts := [], laidByText := true, laidKinds := [.data, .data, .data, .sentinel, .sentinel], laidTests := true, laidLooks := .later }
def FnAtomsCardSaid : Prop := Claim7.holds Tryd.pinned (.plain (OpenSpec.ofChange fnAtomsSpec)) fnAtomsCard

/-- THE SECOND FORM's CARD OF 'laws.FnExactFormatAtom'. -/
def fnExactFormatAtomUptoCard : Claim7 := { stood := { row := fnExactFormatAtomUptoRow, standIns := [], harness := (true, "7a185c75a9e942c4deccd64a3e0465e3885f11ce73f98908bbdcbe3548678b0b"), looks := true }, kinds := [], alts := [], laidByText := true, laidKinds := [.data, .data, .data], laidTests := true, laidLooks := .later }
def FnExactFormatAtomUptoCardSaid : Prop := Claim7.holds Tryd.pinned (.plain (OpenSpec.upto fnExactFormatAtomSpec)) fnExactFormatAtomUptoCard

/-- THE SECOND FORM's CARD OF 'laws.FnExactParseInt'. -/
def fnExactParseIntUptoCard : Claim7 := { stood := { row := fnExactParseIntUptoRow, standIns := [], harness := (true, "7a185c75a9e942c4deccd64a3e0465e3885f11ce73f98908bbdcbe3548678b0b"), looks := true }, kinds := [], alts := [], laidByText := true, laidKinds := [.data, .data, .data, .sentinel, .sentinel], laidTests := true, laidLooks := .later }
def FnExactParseIntUptoCardSaid : Prop := Claim7.holds Tryd.pinned (.plain (OpenSpec.upto fnExactParseIntSpec)) fnExactParseIntUptoCard

/-- THE SECOND FORM's CARD OF 'laws.FnExactFormatCell'. -/
def fnExactFormatCellUptoCard : Claim7 := { stood := { row := fnExactFormatCellUptoRow, standIns := [], harness := (true, "7a185c75a9e942c4deccd64a3e0465e3885f11ce73f98908bbdcbe3548678b0b"), looks := true }, kinds := [], alts := [], laidByText := true, laidKinds := [.data, .data, .data], laidTests := true, laidLooks := .later }
def FnExactFormatCellUptoCardSaid : Prop := Claim7.holds Tryd.pinned (.plain (OpenSpec.upto fnExactFormatCellSpec)) fnExactFormatCellUptoCard

/-- THE SECOND FORM's CARD OF 'laws.FnExactParseRatio'. -/
def fnExactParseRatioUptoCard : Claim7 := { stood := { row := fnExactParseRatioUptoRow, standIns := [], harness := (true, "7a185c75a9e942c4deccd64a3e0465e3885f11ce73f98908bbdcbe3548678b0b"), looks := true }, kinds := [], alts := [], laidByText := true, laidKinds := [.data, .data, .data, .sentinel, .sentinel], laidTests := true, laidLooks := .later }
def FnExactParseRatioUptoCardSaid : Prop := Claim7.holds Tryd.pinned (.plain (OpenSpec.upto fnExactParseRatioSpec)) fnExactParseRatioUptoCard

/-- THE SECOND FORM's CARD OF 'laws.FnExactFormatRegion'. -/
def fnExactFormatRegionUptoCard : Claim7 := { stood := { row := fnExactFormatRegionUptoRow, standIns := [], harness := (true, "7a185c75a9e942c4deccd64a3e0465e3885f11ce73f98908bbdcbe3548678b0b"), looks := true }, kinds := [], alts := [], laidByText := true, laidKinds := [.data, .data, .data], laidTests := true, laidLooks := .later }
def FnExactFormatRegionUptoCardSaid : Prop := Claim7.holds Tryd.pinned (.plain (OpenSpec.upto fnExactFormatRegionSpec)) fnExactFormatRegionUptoCard

/-- THE SECOND FORM's CARD OF 'laws.FnRatios'. -/
def fnRatiosUptoCard : Claim7 := { stood := { row := fnRatiosUptoRow, standIns := [], harness := (true, "7a185c75a9e942c4deccd64a3e0465e3885f11ce73f98908bbdcbe3548678b0b"), looks := true }, kinds := [], alts := [], laidByText := true, laidKinds := [.data, .data, .data, .sentinel, .sentinel], laidTests := true, laidLooks := .later }
def FnRatiosUptoCardSaid : Prop := Claim7.holds Tryd.pinned (.plain (OpenSpec.upto fnRatiosSpec)) fnRatiosUptoCard

/-- THE SECOND FORM's CARD OF 'laws.FnExactParseAtom'. -/
def fnExactParseAtomUptoCard : Claim7 := { stood := { row := fnExactParseAtomUptoRow, standIns := [], harness := (true, "7a185c75a9e942c4deccd64a3e0465e3885f11ce73f98908bbdcbe3548678b0b"), looks := true }, kinds := [], alts := [], laidByText := true, laidKinds := [.data, .data, .data, .sentinel, .sentinel], laidTests := true, laidLooks := .later }
def FnExactParseAtomUptoCardSaid : Prop := Claim7.holds Tryd.pinned (.plain (OpenSpec.upto fnExactParseAtomSpec)) fnExactParseAtomUptoCard

/-- THE SECOND FORM's CARD OF 'laws.FnAtoms'. -/
def fnAtomsUptoCard : Claim7 := { stood := { row := fnAtomsUptoRow, standIns := [], harness := (true, "7a185c75a9e942c4deccd64a3e0465e3885f11ce73f98908bbdcbe3548678b0b"), looks := true }, kinds := [], alts := [], laidByText := true, laidKinds := [.data, .data, .data, .sentinel, .sentinel], laidTests := true, laidLooks := .later }
def FnAtomsUptoCardSaid : Prop := Claim7.holds Tryd.pinned (.plain (OpenSpec.upto fnAtomsSpec)) fnAtomsUptoCard
end Rows
end Go.Proofs.YtohoibekddhneaaDoor
