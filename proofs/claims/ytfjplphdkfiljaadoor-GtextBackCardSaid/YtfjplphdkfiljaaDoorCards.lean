/-
  DERIVED. GIVEN WITH THE SEED: THE CARDS: each row of YtfjplphdkfiljaaDoorRows.lean that lists a variable, with what it lists TIED to the program's text (the seventh form; the later family's looks); each row that meets fmt, with fmt's text TOLD by the authors' own Lean function (tested against real Go, not proved from fmt's source: count such statements apart). THE CARD IS WHAT COUNTS. Prove the row's statement (the work); the ties are given (YtfjplphdkfiljaaDoorTie.lean); close each card by the builder's one call (the guide's Derived/Test/ToyasCard.lean, 'card_holds'). Laid BY PROGRAM, IN A SANDBOX (cutbox-door.mjs). By AI agents, Wed Nov 11 2026. No macro, syntax, notation, axiom, sorry.
-/
import Derived.Test.YtfjplphdkfiljaaDoorRows
import GoSem.ClaimSeven
namespace Go.Proofs.YtfjplphdkfiljaaDoor
namespace Rows

/-- THE TIED CARD OF 'highroadlaw01.NumBack'. -/
def numBackCard : Claim7 := { stood := { row := numBackRow, standIns := [], harness := (true, "a457892684f76a80842d5935ad8dc772a71379e12575cbf058b4ade8d5e0979a"), looks := false }, kinds := [], alts := [], laidByText := true, laidKinds := [.data, .data, .data], laidTests := true, laidLooks := .later }
def NumBackCardSaid : Prop := Claim7.holds Tryd.pinned (.plain (OpenSpec.ofChange numBackSpec)) numBackCard

/-- THE TIED CARD OF 'highroadlaw01.NumSums'. -/
def numSumsCard : Claim7 := { stood := { row := numSumsRow, standIns := [], harness := (true, "a457892684f76a80842d5935ad8dc772a71379e12575cbf058b4ade8d5e0979a"), looks := false }, kinds := [], alts := [], laidByText := true, laidKinds := [.data, .data, .data], laidTests := true, laidLooks := .later }
def NumSumsCardSaid : Prop := Claim7.holds Tryd.pinned (.plain (OpenSpec.ofChange numSumsSpec)) numSumsCard

/-- THE TIED CARD OF 'highroadlaw01.NumTexts'. -/
def numTextsCard : Claim7 := { stood := { row := numTextsRow, standIns := [], harness := (true, "a457892684f76a80842d5935ad8dc772a71379e12575cbf058b4ade8d5e0979a"), looks := false }, kinds := [], alts := [], laidByText := true, laidKinds := [.data, .data, .data], laidTests := true, laidLooks := .later }
def NumTextsCardSaid : Prop := Claim7.holds Tryd.pinned (.plain (OpenSpec.ofChange numTextsSpec)) numTextsCard

/-- THE TIED CARD OF 'highroadlaw01.NumReckons'. -/
def numReckonsCard : Claim7 := { stood := { row := numReckonsRow, standIns := [], harness := (true, "a457892684f76a80842d5935ad8dc772a71379e12575cbf058b4ade8d5e0979a"), looks := false }, kinds := [], alts := [], laidByText := true, laidKinds := [.data, .data, .data], laidTests := true, laidLooks := .later }
def NumReckonsCardSaid : Prop := Claim7.holds Tryd.pinned (.plain (OpenSpec.ofChange numReckonsSpec)) numReckonsCard

/-- THE TIED CARD OF 'highroadlaw02.RatioBounds'. -/
def ratioBoundsCard : Claim7 := { stood := { row := ratioBoundsRow, standIns := [], harness := (true, "a457892684f76a80842d5935ad8dc772a71379e12575cbf058b4ade8d5e0979a"), looks := false }, kinds := [], alts := [], laidByText := true, laidKinds := [.data, .data, .data], laidTests := true, laidLooks := .later }
def RatioBoundsCardSaid : Prop := Claim7.holds Tryd.pinned (.plain (OpenSpec.ofChange ratioBoundsSpec)) ratioBoundsCard

/-- THE TIED CARD OF 'highroadlaw02.RatioOrder'. -/
def ratioOrderCard : Claim7 := { stood := { row := ratioOrderRow, standIns := [], harness := (true, "a457892684f76a80842d5935ad8dc772a71379e12575cbf058b4ade8d5e0979a"), looks := false }, kinds := [], alts := [], laidByText := true, laidKinds := [.data, .data, .data], laidTests := true, laidLooks := .later }
def RatioOrderCardSaid : Prop := Claim7.holds Tryd.pinned (.plain (OpenSpec.ofChange ratioOrderSpec)) ratioOrderCard

/-- THE TIED CARD OF 'highroadlaw02.RatioMore'. -/
def ratioMoreCard : Claim7 := { stood := { row := ratioMoreRow, standIns := [], harness := (true, "a457892684f76a80842d5935ad8dc772a71379e12575cbf058b4ade8d5e0979a"), looks := false }, kinds := [], alts := [], laidByText := true, laidKinds := [.data, .data, .data], laidTests := true, laidLooks := .later }
def RatioMoreCardSaid : Prop := Claim7.holds Tryd.pinned (.plain (OpenSpec.ofChange ratioMoreSpec)) ratioMoreCard

/-- THE TIED CARD OF 'highroadlaw06.GtextPrints'. -/
def gtextPrintsCard : Claim7 := { stood := { row := gtextPrintsRow, standIns := [], harness := (true, "a457892684f76a80842d5935ad8dc772a71379e12575cbf058b4ade8d5e0979a"), looks := false }, kinds := [], alts := [], laidByText := true, laidKinds := [.data, .data, .data], laidTests := true, laidLooks := .later }
def GtextPrintsCardSaid : Prop := Claim7.holds Tryd.pinned (.plain (OpenSpec.ofChange gtextPrintsSpec)) gtextPrintsCard

/-- THE TIED CARD OF 'highroadlaw06.GtextParses'. -/
def gtextParsesCard : Claim7 := { stood := { row := gtextParsesRow, standIns := [], harness := (true, "a457892684f76a80842d5935ad8dc772a71379e12575cbf058b4ade8d5e0979a"), looks := false }, kinds := [], alts := [], laidByText := true, laidKinds := [.data, .data, .data], laidTests := true, laidLooks := .later }
def GtextParsesCardSaid : Prop := Claim7.holds Tryd.pinned (.plain (OpenSpec.ofChange gtextParsesSpec)) gtextParsesCard

/-- THE TIED CARD OF 'highroadlaw02.RatioTexts'. -/
def ratioTextsCard : Claim7 := { stood := { row := ratioTextsRow, standIns := [], harness := (true, "a457892684f76a80842d5935ad8dc772a71379e12575cbf058b4ade8d5e0979a"), looks := false }, kinds := [], alts := [], laidByText := true, laidKinds := [.data, .data, .data], laidTests := true, laidLooks := .later }
def RatioTextsCardSaid : Prop := Claim7.holds Tryd.pinned (.plain (OpenSpec.ofChange ratioTextsSpec)) ratioTextsCard

/-- THE TIED CARD OF 'highroadlaw18.RankMakes'. -/
def rankMakesCard : Claim7 := { stood := { row := rankMakesRow, standIns := [], harness := (true, "a457892684f76a80842d5935ad8dc772a71379e12575cbf058b4ade8d5e0979a"), looks := false }, kinds := [], alts := [], laidByText := true, laidKinds := [.data, .data, .data], laidTests := true, laidLooks := .later }
def RankMakesCardSaid : Prop := Claim7.holds Tryd.pinned (.plain (OpenSpec.ofChange rankMakesSpec)) rankMakesCard

/-- THE TIED CARD OF 'highroadlaw06.GtextBack'. -/
def gtextBackCard : Claim7 := { stood := { row := gtextBackRow, standIns := [], harness := (true, "a457892684f76a80842d5935ad8dc772a71379e12575cbf058b4ade8d5e0979a"), looks := false }, kinds := [], alts := [], laidByText := true, laidKinds := [.data, .data, .data], laidTests := true, laidLooks := .later }
def GtextBackCardSaid : Prop := Claim7.holds Tryd.pinned (.plain (OpenSpec.ofChange gtextBackSpec)) gtextBackCard

/-- THE TIED CARD OF 'highroadlaw18.RankLooks'. -/
def rankLooksCard : Claim7 := { stood := { row := rankLooksRow, standIns := [], harness := (true, "a457892684f76a80842d5935ad8dc772a71379e12575cbf058b4ade8d5e0979a"), looks := false }, kinds := [], alts := [], laidByText := true, laidKinds := [.data, .data, .data, .data, .pinned], laidTests := true, laidLooks := .later }
def RankLooksCardSaid : Prop := Claim7.holds Tryd.pinned (.plain (OpenSpec.ofChange rankLooksSpec)) rankLooksCard

/-- THE TIED CARD OF 'highroadlaw18.RankBack'. -/
def rankBackCard : Claim7 := { stood := { row := rankBackRow, standIns := [], harness := (true, "a457892684f76a80842d5935ad8dc772a71379e12575cbf058b4ade8d5e0979a"), looks := false }, kinds := [], alts := [], laidByText := true, laidKinds := [.data, .data, .data, .data, .pinned], laidTests := true, laidLooks := .later }
def RankBackCardSaid : Prop := Claim7.holds Tryd.pinned (.plain (OpenSpec.ofChange rankBackSpec)) rankBackCard

/-- THE SECOND FORM's CARD OF 'highroadlaw01.NumBack'. -/
def numBackUptoCard : Claim7 := { stood := { row := numBackUptoRow, standIns := [], harness := (true, "a457892684f76a80842d5935ad8dc772a71379e12575cbf058b4ade8d5e0979a"), looks := false }, kinds := [], alts := [], laidByText := true, laidKinds := [.data, .data, .data], laidTests := true, laidLooks := .later }
def NumBackUptoCardSaid : Prop := Claim7.holds Tryd.pinned (.plain (OpenSpec.upto numBackSpec)) numBackUptoCard

/-- THE SECOND FORM's CARD OF 'highroadlaw01.NumSums'. -/
def numSumsUptoCard : Claim7 := { stood := { row := numSumsUptoRow, standIns := [], harness := (true, "a457892684f76a80842d5935ad8dc772a71379e12575cbf058b4ade8d5e0979a"), looks := false }, kinds := [], alts := [], laidByText := true, laidKinds := [.data, .data, .data], laidTests := true, laidLooks := .later }
def NumSumsUptoCardSaid : Prop := Claim7.holds Tryd.pinned (.plain (OpenSpec.upto numSumsSpec)) numSumsUptoCard

/-- THE SECOND FORM's CARD OF 'highroadlaw01.NumTexts'. -/
def numTextsUptoCard : Claim7 := { stood := { row := numTextsUptoRow, standIns := [], harness := (true, "a457892684f76a80842d5935ad8dc772a71379e12575cbf058b4ade8d5e0979a"), looks := false }, kinds := [], alts := [], laidByText := true, laidKinds := [.data, .data, .data], laidTests := true, laidLooks := .later }
def NumTextsUptoCardSaid : Prop := Claim7.holds Tryd.pinned (.plain (OpenSpec.upto numTextsSpec)) numTextsUptoCard

/-- THE SECOND FORM's CARD OF 'highroadlaw01.NumReckons'. -/
def numReckonsUptoCard : Claim7 := { stood := { row := numReckonsUptoRow, standIns := [], harness := (true, "a457892684f76a80842d5935ad8dc772a71379e12575cbf058b4ade8d5e0979a"), looks := false }, kinds := [], alts := [], laidByText := true, laidKinds := [.data, .data, .data], laidTests := true, laidLooks := .later }
def NumReckonsUptoCardSaid : Prop := Claim7.holds Tryd.pinned (.plain (OpenSpec.upto numReckonsSpec)) numReckonsUptoCard

/-- THE SECOND FORM's CARD OF 'highroadlaw02.RatioBounds'. -/
def ratioBoundsUptoCard : Claim7 := { stood := { row := ratioBoundsUptoRow, standIns := [], harness := (true, "a457892684f76a80842d5935ad8dc772a71379e12575cbf058b4ade8d5e0979a"), looks := false }, kinds := [], alts := [], laidByText := true, laidKinds := [.data, .data, .data], laidTests := true, laidLooks := .later }
def RatioBoundsUptoCardSaid : Prop := Claim7.holds Tryd.pinned (.plain (OpenSpec.upto ratioBoundsSpec)) ratioBoundsUptoCard

/-- THE SECOND FORM's CARD OF 'highroadlaw02.RatioOrder'. -/
def ratioOrderUptoCard : Claim7 := { stood := { row := ratioOrderUptoRow, standIns := [], harness := (true, "a457892684f76a80842d5935ad8dc772a71379e12575cbf058b4ade8d5e0979a"), looks := false }, kinds := [], alts := [], laidByText := true, laidKinds := [.data, .data, .data], laidTests := true, laidLooks := .later }
def RatioOrderUptoCardSaid : Prop := Claim7.holds Tryd.pinned (.plain (OpenSpec.upto ratioOrderSpec)) ratioOrderUptoCard

/-- THE SECOND FORM's CARD OF 'highroadlaw02.RatioMore'. -/
def ratioMoreUptoCard : Claim7 := { stood := { row := ratioMoreUptoRow, standIns := [], harness := (true, "a457892684f76a80842d5935ad8dc772a71379e12575cbf058b4ade8d5e0979a"), looks := false }, kinds := [], alts := [], laidByText := true, laidKinds := [.data, .data, .data], laidTests := true, laidLooks := .later }
def RatioMoreUptoCardSaid : Prop := Claim7.holds Tryd.pinned (.plain (OpenSpec.upto ratioMoreSpec)) ratioMoreUptoCard

/-- THE SECOND FORM's CARD OF 'highroadlaw06.GtextPrints'. -/
def gtextPrintsUptoCard : Claim7 := { stood := { row := gtextPrintsUptoRow, standIns := [], harness := (true, "a457892684f76a80842d5935ad8dc772a71379e12575cbf058b4ade8d5e0979a"), looks := false }, kinds := [], alts := [], laidByText := true, laidKinds := [.data, .data, .data], laidTests := true, laidLooks := .later }
def GtextPrintsUptoCardSaid : Prop := Claim7.holds Tryd.pinned (.plain (OpenSpec.upto gtextPrintsSpec)) gtextPrintsUptoCard

/-- THE SECOND FORM's CARD OF 'highroadlaw06.GtextParses'. -/
def gtextParsesUptoCard : Claim7 := { stood := { row := gtextParsesUptoRow, standIns := [], harness := (true, "a457892684f76a80842d5935ad8dc772a71379e12575cbf058b4ade8d5e0979a"), looks := false }, kinds := [], alts := [], laidByText := true, laidKinds := [.data, .data, .data], laidTests := true, laidLooks := .later }
def GtextParsesUptoCardSaid : Prop := Claim7.holds Tryd.pinned (.plain (OpenSpec.upto gtextParsesSpec)) gtextParsesUptoCard

/-- THE SECOND FORM's CARD OF 'highroadlaw02.RatioTexts'. -/
def ratioTextsUptoCard : Claim7 := { stood := { row := ratioTextsUptoRow, standIns := [], harness := (true, "a457892684f76a80842d5935ad8dc772a71379e12575cbf058b4ade8d5e0979a"), looks := false }, kinds := [], alts := [], laidByText := true, laidKinds := [.data, .data, .data], laidTests := true, laidLooks := .later }
def RatioTextsUptoCardSaid : Prop := Claim7.holds Tryd.pinned (.plain (OpenSpec.upto ratioTextsSpec)) ratioTextsUptoCard

/-- THE SECOND FORM's CARD OF 'highroadlaw18.RankMakes'. -/
def rankMakesUptoCard : Claim7 := { stood := { row := rankMakesUptoRow, standIns := [], harness := (true, "a457892684f76a80842d5935ad8dc772a71379e12575cbf058b4ade8d5e0979a"), looks := false }, kinds := [], alts := [], laidByText := true, laidKinds := [.data, .data, .data], laidTests := true, laidLooks := .later }
def RankMakesUptoCardSaid : Prop := Claim7.holds Tryd.pinned (.plain (OpenSpec.upto rankMakesSpec)) rankMakesUptoCard

/-- THE SECOND FORM's CARD OF 'highroadlaw06.GtextBack'. -/
def gtextBackUptoCard : Claim7 := { stood := { row := gtextBackUptoRow, standIns := [], harness := (true, "a457892684f76a80842d5935ad8dc772a71379e12575cbf058b4ade8d5e0979a"), looks := false }, kinds := [], alts := [], laidByText := true, laidKinds := [.data, .data, .data], laidTests := true, laidLooks := .later }
def GtextBackUptoCardSaid : Prop := Claim7.holds Tryd.pinned (.plain (OpenSpec.upto gtextBackSpec)) gtextBackUptoCard

/-- THE SECOND FORM's CARD OF 'highroadlaw18.RankLooks'. -/
def rankLooksUptoCard : Claim7 := { stood := { row := rankLooksUptoRow, standIns := [], harness := (true, "a457892684f76a80842d5935ad8dc772a71379e12575cbf058b4ade8d5e0979a"), looks := false }, kinds := [], alts := [], laidByText := true, laidKinds := [.data, .data, .data, .data, .pinned], laidTests := true, laidLooks := .later }
def RankLooksUptoCardSaid : Prop := Claim7.holds Tryd.pinned (.plain (OpenSpec.upto rankLooksSpec)) rankLooksUptoCard

/-- THE SECOND FORM's CARD OF 'highroadlaw18.RankBack'. -/
def rankBackUptoCard : Claim7 := { stood := { row := rankBackUptoRow, standIns := [], harness := (true, "a457892684f76a80842d5935ad8dc772a71379e12575cbf058b4ade8d5e0979a"), looks := false }, kinds := [], alts := [], laidByText := true, laidKinds := [.data, .data, .data, .data, .pinned], laidTests := true, laidLooks := .later }
def RankBackUptoCardSaid : Prop := Claim7.holds Tryd.pinned (.plain (OpenSpec.upto rankBackSpec)) rankBackUptoCard
end Rows
end Go.Proofs.YtfjplphdkfiljaaDoor
