/-
  Commands as lines, in plain Lean: what a line is read as.
-/
import Derived.Test.YtelcmkccfjdmjaaGreatDoorNumSpec
import Derived.Test.YtelcmkccfjdmjaaGreatDoorRatioD
import Derived.Test.YtelcmkccfjdmjaaGreatDoorTokA
import Derived.Test.YtelcmkccfjdmjaaGreatDoorWordsSpec
import Derived.Test.YtelcmkccfjdmjaaGreatDoorGpSpec
import Derived.Test.YtelcmkccfjdmjaaGreatDoorRkSpec
namespace Go.Proofs.YtelcmkccfjdmjaaGreatDoor
open Go.Proofs Go.RowKit Go.Shelf

def cb (l : List UInt8) : ByteArray := ⟨l.toArray⟩
/-- the names, and what stands behind them -/
def formL : List (ByteArray × ByteArray) := [(cb [76, 79, 65, 68], cb []), (cb [66, 85, 73, 76, 68], cb []), (cb [82, 79, 85, 84, 69], cb [110, 110]), (cb [68, 73, 83, 84], cb [110, 110]), (cb [65, 76, 84], cb [110, 110, 107, 114, 114, 114]), (cb [75, 83, 80], cb [110, 110, 107]), (cb [80, 69, 78], cb [110, 110, 107, 111, 114, 114, 114, 114]),
  (cb [83, 69, 84, 87], cb [101, 119]), (cb [78, 69, 65, 82], cb [110, 97]), (cb [84, 79, 85, 82], cb []), (cb [83, 84, 65, 84], cb []), (cb [68, 85, 77, 80], cb []), (cb [81, 85, 73, 84], cb [])]
def nameL : List ByteArray := formL.map (·.1)
def loadC : ByteArray := cb [76, 79, 65, 68]
def buildC : ByteArray := cb [66, 85, 73, 76, 68]
def tourC : ByteArray := cb [84, 79, 85, 82]

structure CmD where
  name : ByteArray
  ints : List Int
  w : Int
  rats : List (Int × Int)
  gn : Int
  ge : List EdgeD
  rank : List Int
  deriving DecidableEq
def cmd0 : CmD := ⟨ByteArray.empty, [], 0, [], 0, [], []⟩

/-- of what kinds the words behind a name are, and whether there may be so many -/
def kindsC (name : ByteArray) (n : Nat) : ByteArray × Bool :=
  if name = tourC then (cb (List.replicate n 110), decide (2 ≤ n) && decide (n ≤ 20))
  else match formL.find? (fun p => decide (p.1 = name)) with
    | some p => (p.2, decide (p.2.size = n))
    | none => (cb [], decide (n = 0))
def leastC (k : UInt8) : Int := if k = 107 then 1 else 0
def mostC (k : UInt8) : Int := if k = 110 then 4095 else if k = 101 then 16383 else if k = 107 then 1024 else 100
/-- why a word is none of its kind -/
def tkF (k : UInt8) (s : ByteArray) : Int :=
  if k = 114 then (parseR s).2
  else if k = 119 then (if (parseI s).2 = 0 ∧ ((parseI s).1 < 1 ∨ 4294967296 < (parseI s).1) then 2 else (parseI s).2)
  else if k = 97 then (parseI s).2
  else if (intI s (mostC k)).2 = 0 ∧ (intI s (mostC k)).1 < leastC k then 2 else (intI s (mostC k)).2
def tkC (k : UInt8) (s : ByteArray) (c : CmD) : CmD :=
  if k = 114 then { c with rats := c.rats ++ [(parseR s).1] }
  else if k = 119 ∨ k = 97 then { c with w := (parseI s).1 }
  else { c with ints := c.ints ++ [(intI s (mostC k)).1] }
def foldC : CmD → List UInt8 → List ByteArray → CmD × Int
  | c, k :: ks, x :: xs => if tkF k x = 0 then foldC (tkC k x c) ks xs else (cmd0, tkF k x)
  | c, _, _ => (c, 0)
def restC (nm : ByteArray) (tl : List ByteArray) : CmD × Int :=
  if nm = loadC then (if (parseG tl).2.2 = 0 then ({ cmd0 with name := nm, gn := (parseG tl).1.n, ge := (parseG tl).1.es }, 0) else (cmd0, (parseG tl).2.2))
  else if nm = buildC then (match tl with
    | [] => ({ cmd0 with name := nm }, 0)
    | [x] => if (rankP x).2 = 0 then ({ cmd0 with name := nm, rank := (rankP x).1 }, 0) else (cmd0, (rankP x).2)
    | _ => (cmd0, 3))
  else if (kindsC nm tl.length).2 then foldC { cmd0 with name := nm } (kindsC nm tl.length).1.data.toList tl else (cmd0, 3)
def isNm (s : ByteArray) : Bool := nameL.any fun x => decide (x = s)
def parseC (line : ByteArray) : CmD × Int :=
  if (wordsF line).2 ≠ 0 then (cmd0, (wordsF line).2)
  else match (wordsF line).1 with
    | [] => (cmd0, 3)
    | a :: tl => if isNm (upS a) then restC (upS a) tl else (cmd0, 10)

end Go.Proofs.YtelcmkccfjdmjaaGreatDoor
