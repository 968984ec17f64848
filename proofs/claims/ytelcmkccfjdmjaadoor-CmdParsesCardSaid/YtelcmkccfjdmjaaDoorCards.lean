/-
  DERIVED. GIVEN WITH THE SEED: THE CARDS: each row of YtelcmkccfjdmjaaDoorRows.lean that lists a variable, with what it lists TIED to the program's text (the seventh form; the later family's looks); each row that meets fmt, with fmt's text TOLD by the authors' own Lean function (tested against real Go, not proved from fmt's source: count such statements apart). THE CARD IS WHAT COUNTS. Prove the row's statement (the work); the ties are given (YtelcmkccfjdmjaaDoorTie.lean); close each card by the builder's one call (the guide's Derived/Test/ToyasCard.lean, 'card_holds'). Laid BY PROGRAM, IN A SANDBOX (cutbox-door.mjs). By AI agents, Wed Nov 11 2026. No macro, syntax, notation, axiom, sorry.
-/
import Derived.Test.YtelcmkccfjdmjaaDoorRows
import GoSem.ClaimSeven
namespace Go.Proofs.YtelcmkccfjdmjaaDoor
namespace Rows

/-- THE TIED CARD OF 'highroadlaw40.CmdParses'. -/
def cmdParsesCard : Claim7 := { stood := { row := cmdParsesRow, standIns := [], harness := (true, "b488f5f054dc65496cecba2dabbfaf046d53f2b9645a57a85431bed954c088f8"), looks := false }, kinds := [], alts := [], laidByText := true, laidKinds := [.data, .pinned], laidTests := true, laidLooks := .later }
def CmdParsesCardSaid : Prop := Claim7.holds Tryd.pinned (.plain (OpenSpec.ofChange cmdParsesSpec)) cmdParsesCard

/-- THE TIED CARD OF 'highroadlaw41.ReplyRoutes'. -/
def replyRoutesCard : Claim7 := { stood := { row := replyRoutesRow, standIns := [], harness := (true, "b488f5f054dc65496cecba2dabbfaf046d53f2b9645a57a85431bed954c088f8"), looks := false }, kinds := [], alts := [], laidByText := true, laidKinds := [.data, .data, .data, .data, .pinned], laidTests := true, laidLooks := .later }
def ReplyRoutesCardSaid : Prop := Claim7.holds Tryd.pinned (.plain (OpenSpec.ofChange replyRoutesSpec)) replyRoutesCard

/-- THE SECOND FORM's CARD OF 'highroadlaw40.CmdParses'. -/
def cmdParsesUptoCard : Claim7 := { stood := { row := cmdParsesUptoRow, standIns := [], harness := (true, "b488f5f054dc65496cecba2dabbfaf046d53f2b9645a57a85431bed954c088f8"), looks := false }, kinds := [], alts := [], laidByText := true, laidKinds := [.data, .pinned], laidTests := true, laidLooks := .later }
def CmdParsesUptoCardSaid : Prop := Claim7.holds Tryd.pinned (.plain (OpenSpec.upto cmdParsesSpec)) cmdParsesUptoCard

/-- THE SECOND FORM's CARD OF 'highroadlaw41.ReplyRoutes'. -/
def replyRoutesUptoCard : Claim7 := { stood := { row := replyRoutesUptoRow, standIns := [], harness := (true, "b488f5f054dc65496cecba2dabbfaf046d53f2b9645a57a85431bed954c088f8"), looks := false }, kinds := [], alts := [], laidByText := true, laidKinds := [.data, .data, .data, .data, .pinned], laidTests := true, laidLooks := .later }
def ReplyRoutesUptoCardSaid : Prop := Claim7.holds Tryd.pinned (.plain (OpenSpec.upto replyRoutesSpec)) replyRoutesUptoCard
end Rows
end Go.Proofs.YtelcmkccfjdmjaaDoor
