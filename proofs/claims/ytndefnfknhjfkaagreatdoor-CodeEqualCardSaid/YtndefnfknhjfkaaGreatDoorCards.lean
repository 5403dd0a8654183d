/-
  DERIVED. GIVEN WITH THE SEED: THE CARDS: each row of YtndefnfknhjfkaaGreatDoorRows.lean that lists a variable, with what it lists TIED to the program's text (the seventh form; the later family's looks); each row that meets fmt, with fmt's text TOLD by the authors' own Lean function (tested against real Go, not proved from fmt's source: count such statements apart). THE CARD IS WHAT COUNTS. Prove the row's statement (the work); the ties are given (YtndefnfknhjfkaaGreatDoorTie.lean); close each card by the builder's one call (the guide's Derived/Test/ToyasCard.lean, 'card_holds'). Laid BY PROGRAM, IN A SANDBOX (cutbox-door.mjs). By AI agents, Wed Nov 11 2026. No macro, syntax, notation, axiom, sorry.
-/
import Derived.Test.YtndefnfknhjfkaaGreatDoorRows
import GoSem.ClaimSeven
namespace Go.Proofs.YtndefnfknhjfkaaGreatDoor
namespace Rows

/-- THE TIED CARD OF 'osierlaw08.CodeRanges'. -/
def codeRangesCard : Claim7 := { stood := { row := codeRangesRow, standIns := [], harness := (true, "ae492a59d02e5eb41ab7d8f1f5c1b0813c6ad3860ec0c3118a2d68dd95c02aed"), looks := false }, kinds := [], alts := [], laidByText := true, laidKinds := [.data, .pinned], laidTests := true, laidLooks := .later }
def CodeRangesCardSaid : Prop := Claim7.holds Tryz.pinned (.plain (OpenSpec.ofChange codeRangesSpec)) codeRangesCard

/-- THE TIED CARD OF 'osierlaw08.CodeEqual'. -/
def codeEqualCard : Claim7 := { stood := { row := codeEqualRow, standIns := [], harness := (true, "ae492a59d02e5eb41ab7d8f1f5c1b0813c6ad3860ec0c3118a2d68dd95c02aed"), looks := false }, kinds := [], alts := [], laidByText := true, laidKinds := [.data, .pinned], laidTests := true, laidLooks := .later }
def CodeEqualCardSaid : Prop := Claim7.holds Tryz.pinned (.plain (OpenSpec.ofChange codeEqualSpec)) codeEqualCard

/-- THE TIED CARD OF 'osierlaw08.CodeTuples'. -/
def codeTuplesCard : Claim7 := { stood := { row := codeTuplesRow, standIns := [], harness := (true, "ae492a59d02e5eb41ab7d8f1f5c1b0813c6ad3860ec0c3118a2d68dd95c02aed"), looks := false }, kinds := [], alts := [], laidByText := true, laidKinds := [.data, .pinned], laidTests := true, laidLooks := .later }
def CodeTuplesCardSaid : Prop := Claim7.holds Tryz.pinned (.plain (OpenSpec.ofChange codeTuplesSpec)) codeTuplesCard

/-- THE TIED CARD OF 'osierlaw08.CodeVars'. -/
def codeVarsCard : Claim7 := { stood := { row := codeVarsRow, standIns := [], harness := (true, "ae492a59d02e5eb41ab7d8f1f5c1b0813c6ad3860ec0c3118a2d68dd95c02aed"), looks := false }, kinds := [], alts := [], laidByText := true, laidKinds := [.data, .pinned], laidTests := true, laidLooks := .later }
def CodeVarsCardSaid : Prop := Claim7.holds Tryz.pinned (.plain (OpenSpec.ofChange codeVarsSpec)) codeVarsCard

/-- THE TIED CARD OF 'osierlaw08.CodeAdds'. -/
def codeAddsCard : Claim7 := { stood := { row := codeAddsRow, standIns := [], harness := (true, "ae492a59d02e5eb41ab7d8f1f5c1b0813c6ad3860ec0c3118a2d68dd95c02aed"), looks := false }, kinds := [], alts := [], laidByText := true, laidKinds := [.data, .pinned], laidTests := true, laidLooks := .later }
def CodeAddsCardSaid : Prop := Claim7.holds Tryz.pinned (.plain (OpenSpec.ofChange codeAddsSpec)) codeAddsCard

/-- THE TIED CARD OF 'osierlaw08.CodeOrders'. -/
def codeOrdersCard : Claim7 := { stood := { row := codeOrdersRow, standIns := [], harness := (true, "ae492a59d02e5eb41ab7d8f1f5c1b0813c6ad3860ec0c3118a2d68dd95c02aed"), looks := false }, kinds := [], alts := [], laidByText := true, laidKinds := [.data, .pinned], laidTests := true, laidLooks := .later }
def CodeOrdersCardSaid : Prop := Claim7.holds Tryz.pinned (.plain (OpenSpec.ofChange codeOrdersSpec)) codeOrdersCard

/-- THE TIED CARD OF 'osierlaw08.CodeNobody'. -/
def codeNobodyCard : Claim7 := { stood := { row := codeNobodyRow, standIns := [], harness := (true, "ae492a59d02e5eb41ab7d8f1f5c1b0813c6ad3860ec0c3118a2d68dd95c02aed"), looks := false }, kinds := [], alts := [], laidByText := true, laidKinds := [.data, .pinned], laidTests := true, laidLooks := .later }
def CodeNobodyCardSaid : Prop := Claim7.holds Tryz.pinned (.plain (OpenSpec.ofChange codeNobodySpec)) codeNobodyCard

/-- THE TIED CARD OF 'osierlaw09.RelMoves'. -/
def relMovesCard : Claim7 := { stood := { row := relMovesRow, standIns := [], harness := (true, "ae492a59d02e5eb41ab7d8f1f5c1b0813c6ad3860ec0c3118a2d68dd95c02aed"), looks := false }, kinds := [], alts := [], laidByText := true, laidKinds := [.data, .pinned], laidTests := true, laidLooks := .later }
def RelMovesCardSaid : Prop := Claim7.holds Tryz.pinned (.plain (OpenSpec.ofChange relMovesSpec)) relMovesCard

/-- THE TIED CARD OF 'osierlaw09.RelJoins'. -/
def relJoinsCard : Claim7 := { stood := { row := relJoinsRow, standIns := [], harness := (true, "ae492a59d02e5eb41ab7d8f1f5c1b0813c6ad3860ec0c3118a2d68dd95c02aed"), looks := false }, kinds := [], alts := [], laidByText := true, laidKinds := [.data, .pinned], laidTests := true, laidLooks := .later }
def RelJoinsCardSaid : Prop := Claim7.holds Tryz.pinned (.plain (OpenSpec.ofChange relJoinsSpec)) relJoinsCard

/-- THE TIED CARD OF 'osierlaw09.RelSets'. -/
def relSetsCard : Claim7 := { stood := { row := relSetsRow, standIns := [], harness := (true, "ae492a59d02e5eb41ab7d8f1f5c1b0813c6ad3860ec0c3118a2d68dd95c02aed"), looks := false }, kinds := [], alts := [], laidByText := true, laidKinds := [.data, .pinned], laidTests := true, laidLooks := .later }
def RelSetsCardSaid : Prop := Claim7.holds Tryz.pinned (.plain (OpenSpec.ofChange relSetsSpec)) relSetsCard

/-- THE TIED CARD OF 'osierlaw09.RelKeeps'. -/
def relKeepsCard : Claim7 := { stood := { row := relKeepsRow, standIns := [], harness := (true, "ae492a59d02e5eb41ab7d8f1f5c1b0813c6ad3860ec0c3118a2d68dd95c02aed"), looks := false }, kinds := [], alts := [], laidByText := true, laidKinds := [.data, .pinned], laidTests := true, laidLooks := .later }
def RelKeepsCardSaid : Prop := Claim7.holds Tryz.pinned (.plain (OpenSpec.ofChange relKeepsSpec)) relKeepsCard

/-- THE SECOND FORM's CARD OF 'osierlaw08.CodeRanges'. -/
def codeRangesUptoCard : Claim7 := { stood := { row := codeRangesUptoRow, standIns := [], harness := (true, "ae492a59d02e5eb41ab7d8f1f5c1b0813c6ad3860ec0c3118a2d68dd95c02aed"), looks := false }, kinds := [], alts := [], laidByText := true, laidKinds := [.data, .pinned], laidTests := true, laidLooks := .later }
def CodeRangesUptoCardSaid : Prop := Claim7.holds Tryz.pinned (.plain (OpenSpec.upto codeRangesSpec)) codeRangesUptoCard

/-- THE SECOND FORM's CARD OF 'osierlaw08.CodeEqual'. -/
def codeEqualUptoCard : Claim7 := { stood := { row := codeEqualUptoRow, standIns := [], harness := (true, "ae492a59d02e5eb41ab7d8f1f5c1b0813c6ad3860ec0c3118a2d68dd95c02aed"), looks := false }, kinds := [], alts := [], laidByText := true, laidKinds := [.data, .pinned], laidTests := true, laidLooks := .later }
def CodeEqualUptoCardSaid : Prop := Claim7.holds Tryz.pinned (.plain (OpenSpec.upto codeEqualSpec)) codeEqualUptoCard

/-- THE SECOND FORM's CARD OF 'osierlaw08.CodeTuples'. -/
def codeTuplesUptoCard : Claim7 := { stood := { row := codeTuplesUptoRow, standIns := [], harness := (true, "ae492a59d02e5eb41ab7d8f1f5c1b0813c6ad3860ec0c3118a2d68dd95c02aed"), looks := false }, kinds := [], alts := [], laidByText := true, laidKinds := [.data, .pinned], laidTests := true, laidLooks := .later }
def CodeTuplesUptoCardSaid : Prop := Claim7.holds Tryz.pinned (.plain (OpenSpec.upto codeTuplesSpec)) codeTuplesUptoCard

/-- THE SECOND FORM's CARD OF 'osierlaw08.CodeVars'. -/
def codeVarsUptoCard : Claim7 := { stood := { row := codeVarsUptoRow, standIns := [], harness := (true, "ae492a59d02e5eb41ab7d8f1f5c1b0813c6ad3860ec0c3118a2d68dd95c02aed"), looks := false }, kinds := [], alts := [], laidByText := true, laidKinds := [.data, .pinned], laidTests := true, laidLooks := .later }
def CodeVarsUptoCardSaid : Prop := Claim7.holds Tryz.pinned (.plain (OpenSpec.upto codeVarsSpec)) codeVarsUptoCard

/-- THE SECOND FORM's CARD OF 'osierlaw08.CodeAdds'. -/
def codeAddsUptoCard : Claim7 := { stood := { row := codeAddsUptoRow, standIns := [], harness := (true, "ae492a59d02e5eb41ab7d8f1f5c1b0813c6ad3860ec0c3118a2d68dd95c02aed"), looks := false }, kinds := [], alts := [], laidByText := true, laidKinds := [.data, .pinned], laidTests := true, laidLooks := .later }
def CodeAddsUptoCardSaid : Prop := Claim7.holds Tryz.pinned (.plain (OpenSpec.upto codeAddsSpec)) codeAddsUptoCard

/-- THE SECOND FORM's CARD OF 'osierlaw08.CodeOrders'. -/
def codeOrdersUptoCard : Claim7 := { stood := { row := codeOrdersUptoRow, standIns := [], harness := (true, "ae492a59d02e5eb41ab7d8f1f5c1b0813c6ad3860ec0c3118a2d68dd95c02aed"), looks := false }, kinds := [], alts := [], laidByText := true, laidKinds := [.data, .pinned], laidTests := true, laidLooks := .later }
def CodeOrdersUptoCardSaid : Prop := Claim7.holds Tryz.pinned (.plain (OpenSpec.upto codeOrdersSpec)) codeOrdersUptoCard

/-- THE SECOND FORM's CARD OF 'osierlaw08.CodeNobody'. -/
def codeNobodyUptoCard : Claim7 := { stood := { row := codeNobodyUptoRow, standIns := [], harness := (true, "ae492a59d02e5eb41ab7d8f1f5c1b0813c6ad3860ec0c3118a2d68dd95c02aed"), looks := false }, kinds := [], alts := [], laidByText := true, laidKinds := [.data, .pinned], laidTests := true, laidLooks := .later }
def CodeNobodyUptoCardSaid : Prop := Claim7.holds Tryz.pinned (.plain (OpenSpec.upto codeNobodySpec)) codeNobodyUptoCard

/-- THE SECOND FORM's CARD OF 'osierlaw09.RelMoves'. -/
def relMovesUptoCard : Claim7 := { stood := { row := relMovesUptoRow, standIns := [], harness := (true, "ae492a59d02e5eb41ab7d8f1f5c1b0813c6ad3860ec0c3118a2d68dd95c02aed"), looks := false }, kinds := [], alts := [], laidByText := true, laidKinds := [.data, .pinned], laidTests := true, laidLooks := .later }
def RelMovesUptoCardSaid : Prop := Claim7.holds Tryz.pinned (.plain (OpenSpec.upto relMovesSpec)) relMovesUptoCard

/-- THE SECOND FORM's CARD OF 'osierlaw09.RelJoins'. -/
def relJoinsUptoCard : Claim7 := { stood := { row := relJoinsUptoRow, standIns := [], harness := (true, "ae492a59d02e5eb41ab7d8f1f5c1b0813c6ad3860ec0c3118a2d68dd95c02aed"), looks := false }, kinds := [], alts := [], laidByText := true, laidKinds := [.data, .pinned], laidTests := true, laidLooks := .later }
def RelJoinsUptoCardSaid : Prop := Claim7.holds Tryz.pinned (.plain (OpenSpec.upto relJoinsSpec)) relJoinsUptoCard

/-- THE SECOND FORM's CARD OF 'osierlaw09.RelSets'. -/
def relSetsUptoCard : Claim7 := { stood := { row := relSetsUptoRow, standIns := [], harness := (true, "ae492a59d02e5eb41ab7d8f1f5c1b0813c6ad3860ec0c3118a2d68dd95c02aed"), looks := false }, kinds := [], alts := [], laidByText := true, laidKinds := [.data, .pinned], laidTests := true, laidLooks := .later }
def RelSetsUptoCardSaid : Prop := Claim7.holds Tryz.pinned (.plain (OpenSpec.upto relSetsSpec)) relSetsUptoCard

/-- THE SECOND FORM's CARD OF 'osierlaw09.RelKeeps'. -/
def relKeepsUptoCard : Claim7 := { stood := { row := relKeepsUptoRow, standIns := [], harness := (true, "ae492a59d02e5eb41ab7d8f1f5c1b0813c6ad3860ec0c3118a2d68dd95c02aed"), looks := false }, kinds := [], alts := [], laidByText := true, laidKinds := [.data, .pinned], laidTests := true, laidLooks := .later }
def RelKeepsUptoCardSaid : Prop := Claim7.holds Tryz.pinned (.plain (OpenSpec.upto relKeepsSpec)) relKeepsUptoCard
end Rows
end Go.Proofs.YtndefnfknhjfkaaGreatDoor
