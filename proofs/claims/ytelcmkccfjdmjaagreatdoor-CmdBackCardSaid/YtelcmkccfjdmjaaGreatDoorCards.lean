/-
  DERIVED. GIVEN WITH THE SEED: THE CARDS: each row of YtelcmkccfjdmjaaGreatDoorRows.lean that lists a variable, with what it lists TIED to the program's text (the seventh form; the later family's looks); each row that meets fmt, with fmt's text TOLD by the authors' own Lean function (tested against real Go, not proved from fmt's source: count such statements apart). THE CARD IS WHAT COUNTS. Prove the row's statement (the work); the ties are given (YtelcmkccfjdmjaaGreatDoorTie.lean); close each card by the builder's one call (the guide's Derived/Test/ToyasCard.lean, 'card_holds'). Laid BY PROGRAM, IN A SANDBOX (cutbox-door.mjs). By AI agents, Wed Nov 11 2026. No macro, syntax, notation, axiom, sorry.
-/
import Derived.Test.YtelcmkccfjdmjaaGreatDoorRows
import GoSem.ClaimSeven
namespace Go.Proofs.YtelcmkccfjdmjaaGreatDoor
namespace Rows

/-- THE TIED CARD OF 'highroadlaw41.ReplyParses'. -/
def replyParsesCard : Claim7 := { stood := { row := replyParsesRow, standIns := [], harness := (true, "8b034d39450ecb7cf048d31eacf0e81133598fbb8543e0f9cfdc0ceca6fc5816"), looks := false }, kinds := [], alts := [], laidByText := true, laidKinds := [.data, .data, .data, .data, .pinned], laidTests := true, laidLooks := .later }
def ReplyParsesCardSaid : Prop := Claim7.holds Tryz.pinned (.plain (OpenSpec.ofChange replyParsesSpec)) replyParsesCard

/-- THE TIED CARD OF 'highroadlaw41.ReplyPrints'. -/
def replyPrintsCard : Claim7 := { stood := { row := replyPrintsRow, standIns := [], harness := (true, "8b034d39450ecb7cf048d31eacf0e81133598fbb8543e0f9cfdc0ceca6fc5816"), looks := false }, kinds := [], alts := [], laidByText := true, laidKinds := [.data, .data, .data, .data, .pinned], laidTests := true, laidLooks := .later }
def ReplyPrintsCardSaid : Prop := Claim7.holds Tryz.pinned (.plain (OpenSpec.ofChange replyPrintsSpec)) replyPrintsCard

/-- THE TIED CARD OF 'highroadlaw41.ReplyBack'. -/
def replyBackCard : Claim7 := { stood := { row := replyBackRow, standIns := [], harness := (true, "8b034d39450ecb7cf048d31eacf0e81133598fbb8543e0f9cfdc0ceca6fc5816"), looks := false }, kinds := [], alts := [], laidByText := true, laidKinds := [.data, .data, .data, .data, .pinned], laidTests := true, laidLooks := .later }
def ReplyBackCardSaid : Prop := Claim7.holds Tryz.pinned (.plain (OpenSpec.ofChange replyBackSpec)) replyBackCard

/-- THE TIED CARD OF 'highroadlaw40.CmdPrints'. -/
def cmdPrintsCard : Claim7 := { stood := { row := cmdPrintsRow, standIns := [], harness := (true, "8b034d39450ecb7cf048d31eacf0e81133598fbb8543e0f9cfdc0ceca6fc5816"), looks := false }, kinds := [], alts := [], laidByText := true, laidKinds := [.data, .data, .data, .data, .pinned], laidTests := true, laidLooks := .later }
def CmdPrintsCardSaid : Prop := Claim7.holds Tryz.pinned (.plain (OpenSpec.ofChange cmdPrintsSpec)) cmdPrintsCard

/-- THE TIED CARD OF 'highroadlaw40.CmdBack'. -/
def cmdBackCard : Claim7 := { stood := { row := cmdBackRow, standIns := [], harness := (true, "8b034d39450ecb7cf048d31eacf0e81133598fbb8543e0f9cfdc0ceca6fc5816"), looks := false }, kinds := [], alts := [], laidByText := true, laidKinds := [.data, .data, .data, .data, .pinned], laidTests := true, laidLooks := .later }
def CmdBackCardSaid : Prop := Claim7.holds Tryz.pinned (.plain (OpenSpec.ofChange cmdBackSpec)) cmdBackCard

/-- THE SECOND FORM's CARD OF 'highroadlaw41.ReplyParses'. -/
def replyParsesUptoCard : Claim7 := { stood := { row := replyParsesUptoRow, standIns := [], harness := (true, "8b034d39450ecb7cf048d31eacf0e81133598fbb8543e0f9cfdc0ceca6fc5816"), looks := false }, kinds := [], alts := [], laidByText := true, laidKinds := [.data, .data, .data, .data, .pinned], laidTests := true, laidLooks := .later }
def ReplyParsesUptoCardSaid : Prop := Claim7.holds Tryz.pinned (.plain (OpenSpec.upto replyParsesSpec)) replyParsesUptoCard

/-- THE SECOND FORM's CARD OF 'highroadlaw41.ReplyPrints'. -/
def replyPrintsUptoCard : Claim7 := { stood := { row := replyPrintsUptoRow, standIns := [], harness := (true, "8b034d39450ecb7cf048d31eacf0e81133598fbb8543e0f9cfdc0ceca6fc5816"), looks := false }, kinds := [], alts := [], laidByText := true, laidKinds := [.data, .data, .data, .data, .pinned], laidTests := true, laidLooks := .later }
def ReplyPrintsUptoCardSaid : Prop := Claim7.holds Tryz.pinned (.plain (OpenSpec.upto replyPrintsSpec)) replyPrintsUptoCard

/-- THE SECOND FORM's CARD OF 'highroadlaw41.ReplyBack'. -/
def replyBackUptoCard : Claim7 := { stood := { row := replyBackUptoRow, standIns := [], harness := (true, "8b034d39450ecb7cf048d31eacf0e81133598fbb8543e0f9cfdc0ceca6fc5816"), looks := false }, kinds := [], alts := [], laidByText := true, laidKinds := [.data, .data, .data, .data, .pinned], laidTests := true, laidLooks := .later }
def ReplyBackUptoCardSaid : Prop := Claim7.holds Tryz.pinned (.plain (OpenSpec.upto replyBackSpec)) replyBackUptoCard

/-- THE SECOND FORM's CARD OF 'highroadlaw40.CmdPrints'. -/
def cmdPrintsUptoCard : Claim7 := { stood := { row := cmdPrintsUptoRow, standIns := [], harness := (true, "8b034d39450ecb7cf048d31eacf0e81133598fbb8543e0f9cfdc0ceca6fc5816"), looks := false }, kinds := [], alts := [], laidByText := true, laidKinds := [.data, .data, .data, .data, .pinned], laidTests := true, laidLooks := .later }
def CmdPrintsUptoCardSaid : Prop := Claim7.holds Tryz.pinned (.plain (OpenSpec.upto cmdPrintsSpec)) cmdPrintsUptoCard

/-- THE SECOND FORM's CARD OF 'highroadlaw40.CmdBack'. -/
def cmdBackUptoCard : Claim7 := { stood := { row := cmdBackUptoRow, standIns := [], harness := (true, "8b034d39450ecb7cf048d31eacf0e81133598fbb8543e0f9cfdc0ceca6fc5816"), looks := false }, kinds := [], alts := [], laidByText := true, laidKinds := [.data, .data, .data, .data, .pinned], laidTests := true, laidLooks := .later }
def CmdBackUptoCardSaid : Prop := Claim7.holds Tryz.pinned (.plain (OpenSpec.upto cmdBackSpec)) cmdBackUptoCard
end Rows
end Go.Proofs.YtelcmkccfjdmjaaGreatDoor
