/-
  No cell of these rows narrows 'for every input' (looked for: loops, veiled, ifaces, maps, wideKeys, modest, calm, conditions, laid).
  DERIVED. THE GIVEN ROWS OF THIS SEAT. 11 by the template 'for every input the law returns true; each argument reads behind the call as it read before'; 0 by the template 'total and deterministic' (their statements: YtkdomobedfhhgaaGreatTotals.lean).
  GIVEN WITH THE SEED: the statements are not yours to turn. If you find one false, say at which input.
  Laid BY PROGRAM, IN A SANDBOX (cutbox-rows.mjs): the forced cells as the released guide's own fill.sh prints them over the translation a6001cc1ddff2eab… (all of the seat's roots in one cut). By AI agents, Wed Nov 11 2026. No macro, syntax, notation, axiom, sorry.
-/
import Derived.Test.YtkdomobedfhhgaaGreatChecked
import GoSem.Claim
import GoSem.ClaimJoined
import GoSem.ClaimMapViews
import Derived.JoinedTies
import Derived.KernelRfl
namespace Go.Proofs.YtkdomobedfhhgaaGreat
/- THE CELL 'sum', in the pinned program and in every row, IS THE sha256 OF THE DUMP (.gsa) THAT YtkdomobedfhhgaaGreatProg.lean LOADS. Nothing in Lean hashes anything: it is a label: what it is worth is what the hold of that sum in a sandbox is worth. -/
noncomputable def Tryz.pinned : Pinned := { name := "ytkdomobedfhhgaagreat", sum := "a6001cc1ddff2eabef0b26bc91c20316cfc1554055b03566241af06bc5536eca", checked := Tryz.checked }
namespace Rows
def none {H : Type} : Left H := { results := [], args := [] }

/-- 'highroadlaw23.QueryDists': WHATEVER THE INPUT: true; the input reads as it did. -/
def queryDistsSpec : ChangeSpec := { name := "queryDists", fn := fun _ => fun
  | [d1, d2, d3, d4] => { results := [.lit (.bool true)], args := [d1, d2, d3, d4] }
  | _ => none }
def queryDistsRow : OpenClaim := { program := "ytkdomobedfhhgaagreat", sum := "a6001cc1ddff2eabef0b26bc91c20316cfc1554055b03566241af06bc5536eca", func := "highroad/highroadlaw23.QueryDists", spec := "queryDists", unfollowed := true, recurses := true, plainKeys := false, apart := false }
def QueryDistsSaid : Prop := queryDistsRow.holds Tryz.pinned (OpenSpec.ofChange queryDistsSpec)

/-- ITS FALSE NEIGHBOUR: 'it returns false'. Refute it at one input. -/
def queryDistsWrong : ChangeSpec := { name := "queryDists", fn := fun _ => fun
  | [d1, d2, d3, d4] => { results := [.lit (.bool false)], args := [d1, d2, d3, d4] }
  | _ => none }
def QueryDistsWrongFalsely : Prop := queryDistsRow.holds Tryz.pinned (OpenSpec.ofChange queryDistsWrong)

/-- 'highroadlaw23.QueryOracles': WHATEVER THE INPUT: true; the input reads as it did. -/
def queryOraclesSpec : ChangeSpec := { name := "queryOracles", fn := fun _ => fun
  | [d1, d2, d3, d4] => { results := [.lit (.bool true)], args := [d1, d2, d3, d4] }
  | _ => none }
def queryOraclesRow : OpenClaim := { program := "ytkdomobedfhhgaagreat", sum := "a6001cc1ddff2eabef0b26bc91c20316cfc1554055b03566241af06bc5536eca", func := "highroad/highroadlaw23.QueryOracles", spec := "queryOracles", unfollowed := true, recurses := true, plainKeys := false, apart := false }
def QueryOraclesSaid : Prop := queryOraclesRow.holds Tryz.pinned (OpenSpec.ofChange queryOraclesSpec)

/-- ITS FALSE NEIGHBOUR: 'it returns false'. Refute it at one input. -/
def queryOraclesWrong : ChangeSpec := { name := "queryOracles", fn := fun _ => fun
  | [d1, d2, d3, d4] => { results := [.lit (.bool false)], args := [d1, d2, d3, d4] }
  | _ => none }
def QueryOraclesWrongFalsely : Prop := queryOraclesRow.holds Tryz.pinned (OpenSpec.ofChange queryOraclesWrong)

/-- 'highroadlaw22.UpwardSpaces': WHATEVER THE INPUT: true; the input reads as it did. -/
def upwardSpacesSpec : ChangeSpec := { name := "upwardSpaces", fn := fun _ => fun
  | [d1, d2, d3, d4] => { results := [.lit (.bool true)], args := [d1, d2, d3, d4] }
  | _ => none }
def upwardSpacesRow : OpenClaim := { program := "ytkdomobedfhhgaagreat", sum := "a6001cc1ddff2eabef0b26bc91c20316cfc1554055b03566241af06bc5536eca", func := "highroad/highroadlaw22.UpwardSpaces", spec := "upwardSpaces", unfollowed := true, recurses := true, plainKeys := false, apart := false }
def UpwardSpacesSaid : Prop := upwardSpacesRow.holds Tryz.pinned (OpenSpec.ofChange upwardSpacesSpec)

/-- ITS FALSE NEIGHBOUR: 'it returns false'. Refute it at one input. -/
def upwardSpacesWrong : ChangeSpec := { name := "upwardSpaces", fn := fun _ => fun
  | [d1, d2, d3, d4] => { results := [.lit (.bool false)], args := [d1, d2, d3, d4] }
  | _ => none }
def UpwardSpacesWrongFalsely : Prop := upwardSpacesRow.holds Tryz.pinned (OpenSpec.ofChange upwardSpacesWrong)

/-- 'highroadlaw22.UpwardPeaks': WHATEVER THE INPUT: true; the input reads as it did. -/
def upwardPeaksSpec : ChangeSpec := { name := "upwardPeaks", fn := fun _ => fun
  | [d1, d2, d3, d4] => { results := [.lit (.bool true)], args := [d1, d2, d3, d4] }
  | _ => none }
def upwardPeaksRow : OpenClaim := { program := "ytkdomobedfhhgaagreat", sum := "a6001cc1ddff2eabef0b26bc91c20316cfc1554055b03566241af06bc5536eca", func := "highroad/highroadlaw22.UpwardPeaks", spec := "upwardPeaks", unfollowed := true, recurses := true, plainKeys := false, apart := false }
def UpwardPeaksSaid : Prop := upwardPeaksRow.holds Tryz.pinned (OpenSpec.ofChange upwardPeaksSpec)

/-- ITS FALSE NEIGHBOUR: 'it returns false'. Refute it at one input. -/
def upwardPeaksWrong : ChangeSpec := { name := "upwardPeaks", fn := fun _ => fun
  | [d1, d2, d3, d4] => { results := [.lit (.bool false)], args := [d1, d2, d3, d4] }
  | _ => none }
def UpwardPeaksWrongFalsely : Prop := upwardPeaksRow.holds Tryz.pinned (OpenSpec.ofChange upwardPeaksWrong)

/-- 'highroadlaw25.TableEnds': WHATEVER THE INPUT: true; the input reads as it did. -/
def tableEndsSpec : ChangeSpec := { name := "tableEnds", fn := fun _ => fun
  | [d1, d2, d3] => { results := [.lit (.bool true)], args := [d1, d2, d3] }
  | _ => none }
def tableEndsRow : OpenClaim := { program := "ytkdomobedfhhgaagreat", sum := "a6001cc1ddff2eabef0b26bc91c20316cfc1554055b03566241af06bc5536eca", func := "highroad/highroadlaw25.TableEnds", spec := "tableEnds", unfollowed := true, recurses := true, plainKeys := false, apart := false }
def TableEndsSaid : Prop := tableEndsRow.holds Tryz.pinned (OpenSpec.ofChange tableEndsSpec)

/-- ITS FALSE NEIGHBOUR: 'it returns false'. Refute it at one input. -/
def tableEndsWrong : ChangeSpec := { name := "tableEnds", fn := fun _ => fun
  | [d1, d2, d3] => { results := [.lit (.bool false)], args := [d1, d2, d3] }
  | _ => none }
def TableEndsWrongFalsely : Prop := tableEndsRow.holds Tryz.pinned (OpenSpec.ofChange tableEndsWrong)

/-- 'highroadlaw22.UpwardWays': WHATEVER THE INPUT: true; the input reads as it did. -/
def upwardWaysSpec : ChangeSpec := { name := "upwardWays", fn := fun _ => fun
  | [d1, d2, d3, d4, d5, d6] => { results := [.lit (.bool true)], args := [d1, d2, d3, d4, d5, d6] }
  | _ => none }
def upwardWaysRow : OpenClaim := { program := "ytkdomobedfhhgaagreat", sum := "a6001cc1ddff2eabef0b26bc91c20316cfc1554055b03566241af06bc5536eca", func := "highroad/highroadlaw22.UpwardWays", spec := "upwardWays", unfollowed := true, recurses := true, plainKeys := false, apart := false }
def UpwardWaysSaid : Prop := upwardWaysRow.holds Tryz.pinned (OpenSpec.ofChange upwardWaysSpec)

/-- ITS FALSE NEIGHBOUR: 'it returns false'. Refute it at one input. -/
def upwardWaysWrong : ChangeSpec := { name := "upwardWays", fn := fun _ => fun
  | [d1, d2, d3, d4, d5, d6] => { results := [.lit (.bool false)], args := [d1, d2, d3, d4, d5, d6] }
  | _ => none }
def UpwardWaysWrongFalsely : Prop := upwardWaysRow.holds Tryz.pinned (OpenSpec.ofChange upwardWaysWrong)

/-- 'highroadlaw25.TableTours': WHATEVER THE INPUT: true; the input reads as it did. -/
def tableToursSpec : ChangeSpec := { name := "tableTours", fn := fun _ => fun
  | [d1, d2, d3] => { results := [.lit (.bool true)], args := [d1, d2, d3] }
  | _ => none }
def tableToursRow : OpenClaim := { program := "ytkdomobedfhhgaagreat", sum := "a6001cc1ddff2eabef0b26bc91c20316cfc1554055b03566241af06bc5536eca", func := "highroad/highroadlaw25.TableTours", spec := "tableTours", unfollowed := true, recurses := true, plainKeys := false, apart := false }
def TableToursSaid : Prop := tableToursRow.holds Tryz.pinned (OpenSpec.ofChange tableToursSpec)

/-- ITS FALSE NEIGHBOUR: 'it returns false'. Refute it at one input. -/
def tableToursWrong : ChangeSpec := { name := "tableTours", fn := fun _ => fun
  | [d1, d2, d3] => { results := [.lit (.bool false)], args := [d1, d2, d3] }
  | _ => none }
def TableToursWrongFalsely : Prop := tableToursRow.holds Tryz.pinned (OpenSpec.ofChange tableToursWrong)

/-- 'highroadlaw24.UnpackShortcuts': WHATEVER THE INPUT: true; the input reads as it did. -/
def unpackShortcutsSpec : ChangeSpec := { name := "unpackShortcuts", fn := fun _ => fun
  | [d1, d2] => { results := [.lit (.bool true)], args := [d1, d2] }
  | _ => none }
def unpackShortcutsRow : OpenClaim := { program := "ytkdomobedfhhgaagreat", sum := "a6001cc1ddff2eabef0b26bc91c20316cfc1554055b03566241af06bc5536eca", func := "highroad/highroadlaw24.UnpackShortcuts", spec := "unpackShortcuts", unfollowed := true, recurses := true, plainKeys := false, apart := false }
def UnpackShortcutsSaid : Prop := unpackShortcutsRow.holds Tryz.pinned (OpenSpec.ofChange unpackShortcutsSpec)

/-- ITS FALSE NEIGHBOUR: 'it returns false'. Refute it at one input. -/
def unpackShortcutsWrong : ChangeSpec := { name := "unpackShortcuts", fn := fun _ => fun
  | [d1, d2] => { results := [.lit (.bool false)], args := [d1, d2] }
  | _ => none }
def UnpackShortcutsWrongFalsely : Prop := unpackShortcutsRow.holds Tryz.pinned (OpenSpec.ofChange unpackShortcutsWrong)

/-- 'highroadlaw24.UnpackEdges': WHATEVER THE INPUT: true; the input reads as it did. -/
def unpackEdgesSpec : ChangeSpec := { name := "unpackEdges", fn := fun _ => fun
  | [d1, d2, d3, d4] => { results := [.lit (.bool true)], args := [d1, d2, d3, d4] }
  | _ => none }
def unpackEdgesRow : OpenClaim := { program := "ytkdomobedfhhgaagreat", sum := "a6001cc1ddff2eabef0b26bc91c20316cfc1554055b03566241af06bc5536eca", func := "highroad/highroadlaw24.UnpackEdges", spec := "unpackEdges", unfollowed := true, recurses := true, plainKeys := false, apart := false }
def UnpackEdgesSaid : Prop := unpackEdgesRow.holds Tryz.pinned (OpenSpec.ofChange unpackEdgesSpec)

/-- ITS FALSE NEIGHBOUR: 'it returns false'. Refute it at one input. -/
def unpackEdgesWrong : ChangeSpec := { name := "unpackEdges", fn := fun _ => fun
  | [d1, d2, d3, d4] => { results := [.lit (.bool false)], args := [d1, d2, d3, d4] }
  | _ => none }
def UnpackEdgesWrongFalsely : Prop := unpackEdgesRow.holds Tryz.pinned (OpenSpec.ofChange unpackEdgesWrong)

/-- 'highroadlaw25.TableRows': WHATEVER THE INPUT: true; the input reads as it did. -/
def tableRowsSpec : ChangeSpec := { name := "tableRows", fn := fun _ => fun
  | [d1, d2, d3, d4, d5] => { results := [.lit (.bool true)], args := [d1, d2, d3, d4, d5] }
  | _ => none }
def tableRowsRow : OpenClaim := { program := "ytkdomobedfhhgaagreat", sum := "a6001cc1ddff2eabef0b26bc91c20316cfc1554055b03566241af06bc5536eca", func := "highroad/highroadlaw25.TableRows", spec := "tableRows", unfollowed := true, recurses := true, plainKeys := false, apart := false }
def TableRowsSaid : Prop := tableRowsRow.holds Tryz.pinned (OpenSpec.ofChange tableRowsSpec)

/-- ITS FALSE NEIGHBOUR: 'it returns false'. Refute it at one input. -/
def tableRowsWrong : ChangeSpec := { name := "tableRows", fn := fun _ => fun
  | [d1, d2, d3, d4, d5] => { results := [.lit (.bool false)], args := [d1, d2, d3, d4, d5] }
  | _ => none }
def TableRowsWrongFalsely : Prop := tableRowsRow.holds Tryz.pinned (OpenSpec.ofChange tableRowsWrong)

/-- 'highroadlaw24.UnpackRoutes': WHATEVER THE INPUT: true; the input reads as it did. -/
def unpackRoutesSpec : ChangeSpec := { name := "unpackRoutes", fn := fun _ => fun
  | [d1, d2, d3, d4] => { results := [.lit (.bool true)], args := [d1, d2, d3, d4] }
  | _ => none }
def unpackRoutesRow : OpenClaim := { program := "ytkdomobedfhhgaagreat", sum := "a6001cc1ddff2eabef0b26bc91c20316cfc1554055b03566241af06bc5536eca", func := "highroad/highroadlaw24.UnpackRoutes", spec := "unpackRoutes", unfollowed := true, recurses := true, plainKeys := false, apart := false }
def UnpackRoutesSaid : Prop := unpackRoutesRow.holds Tryz.pinned (OpenSpec.ofChange unpackRoutesSpec)

/-- ITS FALSE NEIGHBOUR: 'it returns false'. Refute it at one input. -/
def unpackRoutesWrong : ChangeSpec := { name := "unpackRoutes", fn := fun _ => fun
  | [d1, d2, d3, d4] => { results := [.lit (.bool false)], args := [d1, d2, d3, d4] }
  | _ => none }
def UnpackRoutesWrongFalsely : Prop := unpackRoutesRow.holds Tryz.pinned (OpenSpec.ofChange unpackRoutesWrong)

/- THE SECOND FORM. 'bulk': how many values and letters a reading holds, each counted each time it is reached (what is shared counts as often as it is met; a slice's spare places count too). A statement '..UptoSaid' is the law's where the arguments, and the package variables that the reading takes, are together of bulk at most 1048576: NARROWER than '..Said'. Prove '..Said' where nothing that the law and all that it calls make is longer than what came in: it says more and counts as full. Else prove '..UptoSaid'. A law counts once. -/
mutual
def uptoBulk {H : Type} : DataW H → Nat
  | .lit (.string bytes) => bytes.length + 1
  | .lit _ => 1
  | .nil => 1
  | .ptr d => uptoBulk d + 1
  | .slice elems spare => uptoBulkAll elems + uptoBulkAll spare + 1
  | .agg parts => uptoBulkAll parts + 1
  | .iface _ d => uptoBulk d + 1
  | .map entries => uptoBulkEntries entries + 1
  | .held _ => 1
def uptoBulkAll {H : Type} : List (DataW H) → Nat
  | [] => 0
  | d :: r => uptoBulk d + uptoBulkAll r
def uptoBulkEntries {H : Type} : List (Lit × DataW H) → Nat
  | [] => 0
  | x :: r => uptoBulkEntry x + uptoBulkEntries r
def uptoBulkEntry {H : Type} : Lit × DataW H → Nat
  | (.string bytes, d) => bytes.length + uptoBulk d + 1
  | (_, d) => uptoBulk d + 1
 end
def uptoSmall : (H : Type) → List (DataW H) → Bool := fun _ ds => decide (uptoBulkAll ds ≤ 1048576)
def OpenSpec.upto (s : _root_.Go.ChangeSpec) : _root_.Go.OpenSpec := { _root_.Go.OpenSpec.ofChange s with cond := some uptoSmall }

/-- 'highroadlaw23.QueryDists', WHERE WHAT IT READS IS OF BULK AT MOST 1048576: true; the input reads as it did. -/
def queryDistsUptoRow : OpenClaim := { program := "ytkdomobedfhhgaagreat", sum := "a6001cc1ddff2eabef0b26bc91c20316cfc1554055b03566241af06bc5536eca", func := "highroad/highroadlaw23.QueryDists", spec := "queryDists", unfollowed := true, recurses := true, plainKeys := false, apart := false, narrowed := true }
def QueryDistsUptoSaid : Prop := queryDistsUptoRow.holds Tryz.pinned (OpenSpec.upto queryDistsSpec)

/-- 'highroadlaw23.QueryOracles', WHERE WHAT IT READS IS OF BULK AT MOST 1048576: true; the input reads as it did. -/
def queryOraclesUptoRow : OpenClaim := { program := "ytkdomobedfhhgaagreat", sum := "a6001cc1ddff2eabef0b26bc91c20316cfc1554055b03566241af06bc5536eca", func := "highroad/highroadlaw23.QueryOracles", spec := "queryOracles", unfollowed := true, recurses := true, plainKeys := false, apart := false, narrowed := true }
def QueryOraclesUptoSaid : Prop := queryOraclesUptoRow.holds Tryz.pinned (OpenSpec.upto queryOraclesSpec)

/-- 'highroadlaw22.UpwardSpaces', WHERE WHAT IT READS IS OF BULK AT MOST 1048576: true; the input reads as it did. -/
def upwardSpacesUptoRow : OpenClaim := { program := "ytkdomobedfhhgaagreat", sum := "a6001cc1ddff2eabef0b26bc91c20316cfc1554055b03566241af06bc5536eca", func := "highroad/highroadlaw22.UpwardSpaces", spec := "upwardSpaces", unfollowed := true, recurses := true, plainKeys := false, apart := false, narrowed := true }
def UpwardSpacesUptoSaid : Prop := upwardSpacesUptoRow.holds Tryz.pinned (OpenSpec.upto upwardSpacesSpec)

/-- 'highroadlaw22.UpwardPeaks', WHERE WHAT IT READS IS OF BULK AT MOST 1048576: true; the input reads as it did. -/
def upwardPeaksUptoRow : OpenClaim := { program := "ytkdomobedfhhgaagreat", sum := "a6001cc1ddff2eabef0b26bc91c20316cfc1554055b03566241af06bc5536eca", func := "highroad/highroadlaw22.UpwardPeaks", spec := "upwardPeaks", unfollowed := true, recurses := true, plainKeys := false, apart := false, narrowed := true }
def UpwardPeaksUptoSaid : Prop := upwardPeaksUptoRow.holds Tryz.pinned (OpenSpec.upto upwardPeaksSpec)

/-- 'highroadlaw25.TableEnds', WHERE WHAT IT READS IS OF BULK AT MOST 1048576: true; the input reads as it did. -/
def tableEndsUptoRow : OpenClaim := { program := "ytkdomobedfhhgaagreat", sum := "a6001cc1ddff2eabef0b26bc91c20316cfc1554055b03566241af06bc5536eca", func := "highroad/highroadlaw25.TableEnds", spec := "tableEnds", unfollowed := true, recurses := true, plainKeys := false, apart := false, narrowed := true }
def TableEndsUptoSaid : Prop := tableEndsUptoRow.holds Tryz.pinned (OpenSpec.upto tableEndsSpec)

/-- 'highroadlaw22.UpwardWays', WHERE WHAT IT READS IS OF BULK AT MOST 1048576: true; the input reads as it did. -/
def upwardWaysUptoRow : OpenClaim := { program := "ytkdomobedfhhgaagreat", sum := "a6001cc1ddff2eabef0b26bc91c20316cfc1554055b03566241af06bc5536eca", func := "highroad/highroadlaw22.UpwardWays", spec := "upwardWays", unfollowed := true, recurses := true, plainKeys := false, apart := false, narrowed := true }
def UpwardWaysUptoSaid : Prop := upwardWaysUptoRow.holds Tryz.pinned (OpenSpec.upto upwardWaysSpec)

/-- 'highroadlaw25.TableTours', WHERE WHAT IT READS IS OF BULK AT MOST 1048576: true; the input reads as it did. -/
def tableToursUptoRow : OpenClaim := { program := "ytkdomobedfhhgaagreat", sum := "a6001cc1ddff2eabef0b26bc91c20316cfc1554055b03566241af06bc5536eca", func := "highroad/highroadlaw25.TableTours", spec := "tableTours", unfollowed := true, recurses := true, plainKeys := false, apart := false, narrowed := true }
def TableToursUptoSaid : Prop := tableToursUptoRow.holds Tryz.pinned (OpenSpec.upto tableToursSpec)

/-- 'highroadlaw24.UnpackShortcuts', WHERE WHAT IT READS IS OF BULK AT MOST 1048576: true; the input reads as it did. -/
def unpackShortcutsUptoRow : OpenClaim := { program := "ytkdomobedfhhgaagreat", sum := "a6001cc1ddff2eabef0b26bc91c20316cfc1554055b03566241af06bc5536eca", func := "highroad/highroadlaw24.UnpackShortcuts", spec := "unpackShortcuts", unfollowed := true, recurses := true, plainKeys := false, apart := false, narrowed := true }
def UnpackShortcutsUptoSaid : Prop := unpackShortcutsUptoRow.holds Tryz.pinned (OpenSpec.upto unpackShortcutsSpec)

/-- 'highroadlaw24.UnpackEdges', WHERE WHAT IT READS IS OF BULK AT MOST 1048576: true; the input reads as it did. -/
def unpackEdgesUptoRow : OpenClaim := { program := "ytkdomobedfhhgaagreat", sum := "a6001cc1ddff2eabef0b26bc91c20316cfc1554055b03566241af06bc5536eca", func := "highroad/highroadlaw24.UnpackEdges", spec := "unpackEdges", unfollowed := true, recurses := true, plainKeys := false, apart := false, narrowed := true }
def UnpackEdgesUptoSaid : Prop := unpackEdgesUptoRow.holds Tryz.pinned (OpenSpec.upto unpackEdgesSpec)

/-- 'highroadlaw25.TableRows', WHERE WHAT IT READS IS OF BULK AT MOST 1048576: true; the input reads as it did. -/
def tableRowsUptoRow : OpenClaim := { program := "ytkdomobedfhhgaagreat", sum := "a6001cc1ddff2eabef0b26bc91c20316cfc1554055b03566241af06bc5536eca", func := "highroad/highroadlaw25.TableRows", spec := "tableRows", unfollowed := true, recurses := true, plainKeys := false, apart := false, narrowed := true }
def TableRowsUptoSaid : Prop := tableRowsUptoRow.holds Tryz.pinned (OpenSpec.upto tableRowsSpec)

/-- 'highroadlaw24.UnpackRoutes', WHERE WHAT IT READS IS OF BULK AT MOST 1048576: true; the input reads as it did. -/
def unpackRoutesUptoRow : OpenClaim := { program := "ytkdomobedfhhgaagreat", sum := "a6001cc1ddff2eabef0b26bc91c20316cfc1554055b03566241af06bc5536eca", func := "highroad/highroadlaw24.UnpackRoutes", spec := "unpackRoutes", unfollowed := true, recurses := true, plainKeys := false, apart := false, narrowed := true }
def UnpackRoutesUptoSaid : Prop := unpackRoutesUptoRow.holds Tryz.pinned (OpenSpec.upto unpackRoutesSpec)

end Rows
end Go.Proofs.YtkdomobedfhhgaaGreat
