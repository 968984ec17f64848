/-
  No cell of these rows narrows 'for every input' (looked for: loops, veiled, ifaces, maps, wideKeys, modest, calm, conditions, laid).
  DERIVED. THE GIVEN ROWS OF THIS SEAT. 8 by the template 'for every input the law returns true; each argument reads behind the call as it read before'; 0 by the template 'total and deterministic' (their statements: YteaaapdjplbljaaGreatTotals.lean).
  GIVEN WITH THE SEED: the statements are not yours to turn. If you find one false, say at which input.
  Laid BY PROGRAM, IN A SANDBOX (cutbox-rows.mjs): the forced cells as the released guide's own fill.sh prints them over the translation 285aba16784bca12… (all of the seat's roots in one cut). By AI agents, Wed Nov 11 2026. No macro, syntax, notation, axiom, sorry.
-/
import Derived.Test.YteaaapdjplbljaaGreatChecked
import GoSem.Claim
import GoSem.ClaimJoined
import GoSem.ClaimMapViews
import Derived.JoinedTies
import Derived.KernelRfl
namespace Go.Proofs.YteaaapdjplbljaaGreat
/- THE CELL 'sum', in the pinned program and in every row, IS THE sha256 OF THE DUMP (.gsa) THAT YteaaapdjplbljaaGreatProg.lean LOADS. Nothing in Lean hashes anything: it is a label: what it is worth is what the hold of that sum in a sandbox is worth. -/
noncomputable def Tryz.pinned : Pinned := { name := "yteaaapdjplbljaagreat", sum := "285aba16784bca122d49393adb3f36501c07bf8985b65ecb9c81b3a7e13ba8d3", checked := Tryz.checked }
namespace Rows
def none {H : Type} : Left H := { results := [], args := [] }

/-- 'highroadlaw34.TourLegs': WHATEVER THE INPUT: true; the input reads as it did. -/
def tourLegsSpec : ChangeSpec := { name := "tourLegs", fn := fun _ => fun
  | [d1, d2, d3] => { results := [.lit (.bool true)], args := [d1, d2, d3] }
  | _ => none }
def tourLegsRow : OpenClaim := { program := "yteaaapdjplbljaagreat", sum := "285aba16784bca122d49393adb3f36501c07bf8985b65ecb9c81b3a7e13ba8d3", func := "highroad/highroadlaw34.TourLegs", spec := "tourLegs", unfollowed := true, recurses := true, plainKeys := false, apart := false }
def TourLegsSaid : Prop := tourLegsRow.holds Tryz.pinned (OpenSpec.ofChange tourLegsSpec)

/-- ITS FALSE NEIGHBOUR: 'it returns false'. Refute it at one input. -/
def tourLegsWrong : ChangeSpec := { name := "tourLegs", fn := fun _ => fun
  | [d1, d2, d3] => { results := [.lit (.bool false)], args := [d1, d2, d3] }
  | _ => none }
def TourLegsWrongFalsely : Prop := tourLegsRow.holds Tryz.pinned (OpenSpec.ofChange tourLegsWrong)

/-- 'highroadlaw34.TourOrders': WHATEVER THE INPUT: true; the input reads as it did. -/
def tourOrdersSpec : ChangeSpec := { name := "tourOrders", fn := fun _ => fun
  | [d1, d2, d3, d4, d5] => { results := [.lit (.bool true)], args := [d1, d2, d3, d4, d5] }
  | _ => none }
def tourOrdersRow : OpenClaim := { program := "yteaaapdjplbljaagreat", sum := "285aba16784bca122d49393adb3f36501c07bf8985b65ecb9c81b3a7e13ba8d3", func := "highroad/highroadlaw34.TourOrders", spec := "tourOrders", unfollowed := true, recurses := true, plainKeys := false, apart := false }
def TourOrdersSaid : Prop := tourOrdersRow.holds Tryz.pinned (OpenSpec.ofChange tourOrdersSpec)

/-- ITS FALSE NEIGHBOUR: 'it returns false'. Refute it at one input. -/
def tourOrdersWrong : ChangeSpec := { name := "tourOrders", fn := fun _ => fun
  | [d1, d2, d3, d4, d5] => { results := [.lit (.bool false)], args := [d1, d2, d3, d4, d5] }
  | _ => none }
def TourOrdersWrongFalsely : Prop := tourOrdersRow.holds Tryz.pinned (OpenSpec.ofChange tourOrdersWrong)

/-- 'highroadlaw34.TourLeast': WHATEVER THE INPUT: true; the input reads as it did. -/
def tourLeastSpec : ChangeSpec := { name := "tourLeast", fn := fun _ => fun
  | [d1, d2, d3, d4, d5] => { results := [.lit (.bool true)], args := [d1, d2, d3, d4, d5] }
  | _ => none }
def tourLeastRow : OpenClaim := { program := "yteaaapdjplbljaagreat", sum := "285aba16784bca122d49393adb3f36501c07bf8985b65ecb9c81b3a7e13ba8d3", func := "highroad/highroadlaw34.TourLeast", spec := "tourLeast", unfollowed := true, recurses := true, plainKeys := false, apart := false }
def TourLeastSaid : Prop := tourLeastRow.holds Tryz.pinned (OpenSpec.ofChange tourLeastSpec)

/-- ITS FALSE NEIGHBOUR: 'it returns false'. Refute it at one input. -/
def tourLeastWrong : ChangeSpec := { name := "tourLeast", fn := fun _ => fun
  | [d1, d2, d3, d4, d5] => { results := [.lit (.bool false)], args := [d1, d2, d3, d4, d5] }
  | _ => none }
def TourLeastWrongFalsely : Prop := tourLeastRow.holds Tryz.pinned (OpenSpec.ofChange tourLeastWrong)

/-- 'highroadlaw28.ViaWays': WHATEVER THE INPUT: true; the input reads as it did. -/
def viaWaysSpec : ChangeSpec := { name := "viaWays", fn := fun _ => fun
  | [d1, d2, d3, d4, d5] => { results := [.lit (.bool true)], args := [d1, d2, d3, d4, d5] }
  | _ => none }
def viaWaysRow : OpenClaim := { program := "yteaaapdjplbljaagreat", sum := "285aba16784bca122d49393adb3f36501c07bf8985b65ecb9c81b3a7e13ba8d3", func := "highroad/highroadlaw28.ViaWays", spec := "viaWays", unfollowed := true, recurses := true, plainKeys := false, apart := false }
def ViaWaysSaid : Prop := viaWaysRow.holds Tryz.pinned (OpenSpec.ofChange viaWaysSpec)

/-- ITS FALSE NEIGHBOUR: 'it returns false'. Refute it at one input. -/
def viaWaysWrong : ChangeSpec := { name := "viaWays", fn := fun _ => fun
  | [d1, d2, d3, d4, d5] => { results := [.lit (.bool false)], args := [d1, d2, d3, d4, d5] }
  | _ => none }
def ViaWaysWrongFalsely : Prop := viaWaysRow.holds Tryz.pinned (OpenSpec.ofChange viaWaysWrong)

/-- 'highroadlaw28.ViaNodes': WHATEVER THE INPUT: true; the input reads as it did. -/
def viaNodesSpec : ChangeSpec := { name := "viaNodes", fn := fun _ => fun
  | [d1, d2, d3, d4] => { results := [.lit (.bool true)], args := [d1, d2, d3, d4] }
  | _ => none }
def viaNodesRow : OpenClaim := { program := "yteaaapdjplbljaagreat", sum := "285aba16784bca122d49393adb3f36501c07bf8985b65ecb9c81b3a7e13ba8d3", func := "highroad/highroadlaw28.ViaNodes", spec := "viaNodes", unfollowed := true, recurses := true, plainKeys := false, apart := false }
def ViaNodesSaid : Prop := viaNodesRow.holds Tryz.pinned (OpenSpec.ofChange viaNodesSpec)

/-- ITS FALSE NEIGHBOUR: 'it returns false'. Refute it at one input. -/
def viaNodesWrong : ChangeSpec := { name := "viaNodes", fn := fun _ => fun
  | [d1, d2, d3, d4] => { results := [.lit (.bool false)], args := [d1, d2, d3, d4] }
  | _ => none }
def ViaNodesWrongFalsely : Prop := viaNodesRow.holds Tryz.pinned (OpenSpec.ofChange viaNodesWrong)

/-- 'highroadlaw28.ViaLeast': WHATEVER THE INPUT: true; the input reads as it did. -/
def viaLeastSpec : ChangeSpec := { name := "viaLeast", fn := fun _ => fun
  | [d1, d2, d3, d4] => { results := [.lit (.bool true)], args := [d1, d2, d3, d4] }
  | _ => none }
def viaLeastRow : OpenClaim := { program := "yteaaapdjplbljaagreat", sum := "285aba16784bca122d49393adb3f36501c07bf8985b65ecb9c81b3a7e13ba8d3", func := "highroad/highroadlaw28.ViaLeast", spec := "viaLeast", unfollowed := true, recurses := true, plainKeys := false, apart := false }
def ViaLeastSaid : Prop := viaLeastRow.holds Tryz.pinned (OpenSpec.ofChange viaLeastSpec)

/-- ITS FALSE NEIGHBOUR: 'it returns false'. Refute it at one input. -/
def viaLeastWrong : ChangeSpec := { name := "viaLeast", fn := fun _ => fun
  | [d1, d2, d3, d4] => { results := [.lit (.bool false)], args := [d1, d2, d3, d4] }
  | _ => none }
def ViaLeastWrongFalsely : Prop := viaLeastRow.holds Tryz.pinned (OpenSpec.ofChange viaLeastWrong)

/-- 'highroadlaw29.AltWays': WHATEVER THE INPUT: true; the input reads as it did. -/
def altWaysSpec : ChangeSpec := { name := "altWays", fn := fun _ => fun
  | [d1, d2, d3, d4, d5] => { results := [.lit (.bool true)], args := [d1, d2, d3, d4, d5] }
  | _ => none }
def altWaysRow : OpenClaim := { program := "yteaaapdjplbljaagreat", sum := "285aba16784bca122d49393adb3f36501c07bf8985b65ecb9c81b3a7e13ba8d3", func := "highroad/highroadlaw29.AltWays", spec := "altWays", unfollowed := true, recurses := true, plainKeys := false, apart := false }
def AltWaysSaid : Prop := altWaysRow.holds Tryz.pinned (OpenSpec.ofChange altWaysSpec)

/-- ITS FALSE NEIGHBOUR: 'it returns false'. Refute it at one input. -/
def altWaysWrong : ChangeSpec := { name := "altWays", fn := fun _ => fun
  | [d1, d2, d3, d4, d5] => { results := [.lit (.bool false)], args := [d1, d2, d3, d4, d5] }
  | _ => none }
def AltWaysWrongFalsely : Prop := altWaysRow.holds Tryz.pinned (OpenSpec.ofChange altWaysWrong)

/-- 'highroadlaw29.AltGood': WHATEVER THE INPUT: true; the input reads as it did. -/
def altGoodSpec : ChangeSpec := { name := "altGood", fn := fun _ => fun
  | [d1, d2, d3, d4, d5] => { results := [.lit (.bool true)], args := [d1, d2, d3, d4, d5] }
  | _ => none }
def altGoodRow : OpenClaim := { program := "yteaaapdjplbljaagreat", sum := "285aba16784bca122d49393adb3f36501c07bf8985b65ecb9c81b3a7e13ba8d3", func := "highroad/highroadlaw29.AltGood", spec := "altGood", unfollowed := true, recurses := true, plainKeys := false, apart := false }
def AltGoodSaid : Prop := altGoodRow.holds Tryz.pinned (OpenSpec.ofChange altGoodSpec)

/-- ITS FALSE NEIGHBOUR: 'it returns false'. Refute it at one input. -/
def altGoodWrong : ChangeSpec := { name := "altGood", fn := fun _ => fun
  | [d1, d2, d3, d4, d5] => { results := [.lit (.bool false)], args := [d1, d2, d3, d4, d5] }
  | _ => none }
def AltGoodWrongFalsely : Prop := altGoodRow.holds Tryz.pinned (OpenSpec.ofChange altGoodWrong)

/- THE SECOND FORM. 'bulk': how many values and letters a reading holds, each counted each time it is reached (what is shared counts as often as it is met; a slice's spare places count too). A statement '..UptoSaid' is the law's where the arguments, and the package variables that the reading takes, are together of bulk at most 1048576: NARROWER than '..Said'. Prove '..Said' where nothing that the law and all that it calls make is longer than what came in: it says more and counts as full. Else prove '..UptoSaid'. A law counts once. -/
mutual
def uptoBulk {H : Type} : DataW H → Nat
  | .lit (.string bytes) => bytes.length + 1
  | .lit _ => 1
  | .nil => 1
  | .ptr d => uptoBulk d + 1
  | .slice elems spare => uptoBulkAll elems + uptoBulkAll spare + 1
  | .agg parts => uptoBulkAll parts + 1
  | .iface _ d => uptoBulk d + 1
  | .map entries => uptoBulkEntries entries + 1
  | .held _ => 1
def uptoBulkAll {H : Type} : List (DataW H) → Nat
  | [] => 0
  | d :: r => uptoBulk d + uptoBulkAll r
def uptoBulkEntries {H : Type} : List (Lit × DataW H) → Nat
  | [] => 0
  | x :: r => uptoBulkEntry x + uptoBulkEntries r
def uptoBulkEntry {H : Type} : Lit × DataW H → Nat
  | (.string bytes, d) => bytes.length + uptoBulk d + 1
  | (_, d) => uptoBulk d + 1
 end
def uptoSmall : (H : Type) → List (DataW H) → Bool := fun _ ds => decide (uptoBulkAll ds ≤ 1048576)
def OpenSpec.upto (s : _root_.Go.ChangeSpec) : _root_.Go.OpenSpec := { _root_.Go.OpenSpec.ofChange s with cond := some uptoSmall }

/-- 'highroadlaw34.TourLegs', WHERE WHAT IT READS IS OF BULK AT MOST 1048576: true; the input reads as it did. -/
def tourLegsUptoRow : OpenClaim := { program := "yteaaapdjplbljaagreat", sum := "285aba16784bca122d49393adb3f36501c07bf8985b65ecb9c81b3a7e13ba8d3", func := "highroad/highroadlaw34.TourLegs", spec := "tourLegs", unfollowed := true, recurses := true, plainKeys := false, apart := false, narrowed := true }
def TourLegsUptoSaid : Prop := tourLegsUptoRow.holds Tryz.pinned (OpenSpec.upto tourLegsSpec)

/-- 'highroadlaw34.TourOrders', WHERE WHAT IT READS IS OF BULK AT MOST 1048576: true; the input reads as it did. -/
def tourOrdersUptoRow : OpenClaim := { program := "yteaaapdjplbljaagreat", sum := "285aba16784bca122d49393adb3f36501c07bf8985b65ecb9c81b3a7e13ba8d3", func := "highroad/highroadlaw34.TourOrders", spec := "tourOrders", unfollowed := true, recurses := true, plainKeys := false, apart := false, narrowed := true }
def TourOrdersUptoSaid : Prop := tourOrdersUptoRow.holds Tryz.pinned (OpenSpec.upto tourOrdersSpec)

/-- 'highroadlaw34.TourLeast', WHERE WHAT IT READS IS OF BULK AT MOST 1048576: true; the input reads as it did. -/
def tourLeastUptoRow : OpenClaim := { program := "yteaaapdjplbljaagreat", sum := "285aba16784bca122d49393adb3f36501c07bf8985b65ecb9c81b3a7e13ba8d3", func := "highroad/highroadlaw34.TourLeast", spec := "tourLeast", unfollowed := true, recurses := true, plainKeys := false, apart := false, narrowed := true }
def TourLeastUptoSaid : Prop := tourLeastUptoRow.holds Tryz.pinned (OpenSpec.upto tourLeastSpec)

/-- 'highroadlaw28.ViaWays', WHERE WHAT IT READS IS OF BULK AT MOST 1048576: true; the input reads as it did. -/
def viaWaysUptoRow : OpenClaim := { program := "yteaaapdjplbljaagreat", sum := "285aba16784bca122d49393adb3f36501c07bf8985b65ecb9c81b3a7e13ba8d3", func := "highroad/highroadlaw28.ViaWays", spec := "viaWays", unfollowed := true, recurses := true, plainKeys := false, apart := false, narrowed := true }
def ViaWaysUptoSaid : Prop := viaWaysUptoRow.holds Tryz.pinned (OpenSpec.upto viaWaysSpec)

/-- 'highroadlaw28.ViaNodes', WHERE WHAT IT READS IS OF BULK AT MOST 1048576: true; the input reads as it did. -/
def viaNodesUptoRow : OpenClaim := { program := "yteaaapdjplbljaagreat", sum := "285aba16784bca122d49393adb3f36501c07bf8985b65ecb9c81b3a7e13ba8d3", func := "highroad/highroadlaw28.ViaNodes", spec := "viaNodes", unfollowed := true, recurses := true, plainKeys := false, apart := false, narrowed := true }
def ViaNodesUptoSaid : Prop := viaNodesUptoRow.holds Tryz.pinned (OpenSpec.upto viaNodesSpec)

/-- 'highroadlaw28.ViaLeast', WHERE WHAT IT READS IS OF BULK AT MOST 1048576: true; the input reads as it did. -/
def viaLeastUptoRow : OpenClaim := { program := "yteaaapdjplbljaagreat", sum := "285aba16784bca122d49393adb3f36501c07bf8985b65ecb9c81b3a7e13ba8d3", func := "highroad/highroadlaw28.ViaLeast", spec := "viaLeast", unfollowed := true, recurses := true, plainKeys := false, apart := false, narrowed := true }
def ViaLeastUptoSaid : Prop := viaLeastUptoRow.holds Tryz.pinned (OpenSpec.upto viaLeastSpec)

/-- 'highroadlaw29.AltWays', WHERE WHAT IT READS IS OF BULK AT MOST 1048576: true; the input reads as it did. -/
def altWaysUptoRow : OpenClaim := { program := "yteaaapdjplbljaagreat", sum := "285aba16784bca122d49393adb3f36501c07bf8985b65ecb9c81b3a7e13ba8d3", func := "highroad/highroadlaw29.AltWays", spec := "altWays", unfollowed := true, recurses := true, plainKeys := false, apart := false, narrowed := true }
def AltWaysUptoSaid : Prop := altWaysUptoRow.holds Tryz.pinned (OpenSpec.upto altWaysSpec)

/-- 'highroadlaw29.AltGood', WHERE WHAT IT READS IS OF BULK AT MOST 1048576: true; the input reads as it did. -/
def altGoodUptoRow : OpenClaim := { program := "yteaaapdjplbljaagreat", sum := "285aba16784bca122d49393adb3f36501c07bf8985b65ecb9c81b3a7e13ba8d3", func := "highroad/highroadlaw29.AltGood", spec := "altGood", unfollowed := true, recurses := true, plainKeys := false, apart := false, narrowed := true }
def AltGoodUptoSaid : Prop := altGoodUptoRow.holds Tryz.pinned (OpenSpec.upto altGoodSpec)

end Rows
end Go.Proofs.YteaaapdjplbljaaGreat
