/-
  DERIVED. GIVEN WITH THE SEED: THE CARDS: each row of YtakdfjkkeilffaaDoorRows.lean that lists a variable, with what it lists TIED to the program's text (the seventh form; the later family's looks); each row that meets fmt, with fmt's text TOLD by the authors' own Lean function (tested against real Go, not proved from fmt's source: count such statements apart). THE CARD IS WHAT COUNTS. Prove the row's statement (the work); the ties are given (YtakdfjkkeilffaaDoorTie.lean); close each card by the builder's one call (the guide's Derived/Test/ToyasCard.lean, 'card_holds'). Laid BY PROGRAM, IN A SANDBOX (cutbox-door.mjs). By AI agents, Wed Nov 11 2026. No macro, syntax, notation, axiom, sorry.
-/
import Derived.Test.YtakdfjkkeilffaaDoorRows
import GoSem.ClaimSeven
namespace Go.Proofs.YtakdfjkkeilffaaDoor
namespace Rows

/-- THE TIED CARD OF 'flyoverlaw02.CodeSums'. -/
def codeSumsCard : Claim7 := { stood := { row := codeSumsRow, standIns := [], harness := (true, "54999dde7c1cf47cce7d835f2cfe763e3ae24013bc495f71d530c5a76eeb6d86"), looks := false }, kinds := [], alts := [], laidByText := true, laidKinds := [.data], laidTests := true, laidLooks := .later }
def CodeSumsCardSaid : Prop := Claim7.holds Tryd.pinned (.plain (OpenSpec.ofChange codeSumsSpec)) codeSumsCard

/-- THE TIED CARD OF 'flyoverlaw02.CodeTorn'. -/
def codeTornCard : Claim7 := { stood := { row := codeTornRow, standIns := [], harness := (true, "54999dde7c1cf47cce7d835f2cfe763e3ae24013bc495f71d530c5a76eeb6d86"), looks := false }, kinds := [], alts := [], laidByText := true, laidKinds := [.data], laidTests := true, laidLooks := .later }
def CodeTornCardSaid : Prop := Claim7.holds Tryd.pinned (.plain (OpenSpec.ofChange codeTornSpec)) codeTornCard

/-- THE TIED CARD OF 'flyoverlaw02.CodeFrames'. -/
def codeFramesCard : Claim7 := { stood := { row := codeFramesRow, standIns := [], harness := (true, "54999dde7c1cf47cce7d835f2cfe763e3ae24013bc495f71d530c5a76eeb6d86"), looks := false }, kinds := [], alts := [], laidByText := true, laidKinds := [.data], laidTests := true, laidLooks := .later }
def CodeFramesCardSaid : Prop := Claim7.holds Tryd.pinned (.plain (OpenSpec.ofChange codeFramesSpec)) codeFramesCard

/-- THE TIED CARD OF 'flyoverlaw02.CodeFramed'. -/
def codeFramedCard : Claim7 := { stood := { row := codeFramedRow, standIns := [], harness := (true, "54999dde7c1cf47cce7d835f2cfe763e3ae24013bc495f71d530c5a76eeb6d86"), looks := false }, kinds := [], alts := [], laidByText := true, laidKinds := [.data], laidTests := true, laidLooks := .later }
def CodeFramedCardSaid : Prop := Claim7.holds Tryd.pinned (.plain (OpenSpec.ofChange codeFramedSpec)) codeFramedCard

/-- THE TIED CARD OF 'flyoverlaw20.MessDecodes'. -/
def messDecodesCard : Claim7 := { stood := { row := messDecodesRow, standIns := [], harness := (true, "54999dde7c1cf47cce7d835f2cfe763e3ae24013bc495f71d530c5a76eeb6d86"), looks := false }, kinds := [], alts := [], laidByText := true, laidKinds := [.data], laidTests := true, laidLooks := .later }
def MessDecodesCardSaid : Prop := Claim7.holds Tryd.pinned (.plain (OpenSpec.ofChange messDecodesSpec)) messDecodesCard

/-- THE TIED CARD OF 'flyoverlaw20.MessBack'. -/
def messBackCard : Claim7 := { stood := { row := messBackRow, standIns := [], harness := (true, "54999dde7c1cf47cce7d835f2cfe763e3ae24013bc495f71d530c5a76eeb6d86"), looks := false }, kinds := [], alts := [], laidByText := true, laidKinds := [.data], laidTests := true, laidLooks := .later }
def MessBackCardSaid : Prop := Claim7.holds Tryd.pinned (.plain (OpenSpec.ofChange messBackSpec)) messBackCard

/-- THE TIED CARD OF 'flyoverlaw20.MessUnlike'. -/
def messUnlikeCard : Claim7 := { stood := { row := messUnlikeRow, standIns := [], harness := (true, "54999dde7c1cf47cce7d835f2cfe763e3ae24013bc495f71d530c5a76eeb6d86"), looks := false }, kinds := [], alts := [], laidByText := true, laidKinds := [.data], laidTests := true, laidLooks := .later }
def MessUnlikeCardSaid : Prop := Claim7.holds Tryd.pinned (.plain (OpenSpec.ofChange messUnlikeSpec)) messUnlikeCard

/-- THE SECOND FORM's CARD OF 'flyoverlaw02.CodeSums'. -/
def codeSumsUptoCard : Claim7 := { stood := { row := codeSumsUptoRow, standIns := [], harness := (true, "54999dde7c1cf47cce7d835f2cfe763e3ae24013bc495f71d530c5a76eeb6d86"), looks := false }, kinds := [], alts := [], laidByText := true, laidKinds := [.data], laidTests := true, laidLooks := .later }
def CodeSumsUptoCardSaid : Prop := Claim7.holds Tryd.pinned (.plain (OpenSpec.upto codeSumsSpec)) codeSumsUptoCard

/-- THE SECOND FORM's CARD OF 'flyoverlaw02.CodeTorn'. -/
def codeTornUptoCard : Claim7 := { stood := { row := codeTornUptoRow, standIns := [], harness := (true, "54999dde7c1cf47cce7d835f2cfe763e3ae24013bc495f71d530c5a76eeb6d86"), looks := false }, kinds := [], alts := [], laidByText := true, laidKinds := [.data], laidTests := true, laidLooks := .later }
def CodeTornUptoCardSaid : Prop := Claim7.holds Tryd.pinned (.plain (OpenSpec.upto codeTornSpec)) codeTornUptoCard

/-- THE SECOND FORM's CARD OF 'flyoverlaw02.CodeFrames'. -/
def codeFramesUptoCard : Claim7 := { stood := { row := codeFramesUptoRow, standIns := [], harness := (true, "54999dde7c1cf47cce7d835f2cfe763e3ae24013bc495f71d530c5a76eeb6d86"), looks := false }, kinds := [], alts := [], laidByText := true, laidKinds := [.data], laidTests := true, laidLooks := .later }
def CodeFramesUptoCardSaid : Prop := Claim7.holds Tryd.pinned (.plain (OpenSpec.upto codeFramesSpec)) codeFramesUptoCard

/-- THE SECOND FORM's CARD OF 'flyoverlaw02.CodeFramed'. -/
def codeFramedUptoCard : Claim7 := { stood := { row := codeFramedUptoRow, standIns := [], harness := (true, "54999dde7c1cf47cce7d835f2cfe763e3ae24013bc495f71d530c5a76eeb6d86"), looks := false }, kinds := [], alts := [], laidByText := true, laidKinds := [.data], laidTests := true, laidLooks := .later }
def CodeFramedUptoCardSaid : Prop := Claim7.holds Tryd.pinned (.plain (OpenSpec.upto codeFramedSpec)) codeFramedUptoCard

/-- THE SECOND FORM's CARD OF 'flyoverlaw20.MessDecodes'. -/
def messDecodesUptoCard : Claim7 := { stood := { row := messDecodesUptoRow, standIns := [], harness := (true, "54999dde7c1cf47cce7d835f2cfe763e3ae24013bc495f71d530c5a76eeb6d86"), looks := false }, kinds := [], alts := [], laidByText := true, laidKinds := [.data], laidTests := true, laidLooks := .later }
def MessDecodesUptoCardSaid : Prop := Claim7.holds Tryd.pinned (.plain (OpenSpec.upto messDecodesSpec)) messDecodesUptoCard

/-- THE SECOND FORM's CARD OF 'flyoverlaw20.MessBack'. -/
def messBackUptoCard : Claim7 := { stood := { row := messBackUptoRow, standIns := [], harness := (true, "54999dde7c1cf47cce7d835f2cfe763e3ae24013bc495f71d530c5a76eeb6d86"), looks := false }, kinds := [], alts := [], laidByText := true, laidKinds := [.data], laidTests := true, laidLooks := .later }
def MessBackUptoCardSaid : Prop := Claim7.holds Tryd.pinned (.plain (OpenSpec.upto messBackSpec)) messBackUptoCard

/-- THE SECOND FORM's CARD OF 'flyoverlaw20.MessUnlike'. -/
def messUnlikeUptoCard : Claim7 := { stood := { row := messUnlikeUptoRow, standIns := [], harness := (true, "54999dde7c1cf47cce7d835f2cfe763e3ae24013bc495f71d530c5a76eeb6d86"), looks := false }, kinds := [], alts := [], laidByText := true, laidKinds := [.data], laidTests := true, laidLooks := .later }
def MessUnlikeUptoCardSaid : Prop := Claim7.holds Tryd.pinned (.plain (OpenSpec.upto messUnlikeSpec)) messUnlikeUptoCard
end Rows
end Go.Proofs.YtakdfjkkeilffaaDoor
