/-
  Package gtext: the text of a graph, as plain Lean, and the closure that writes a line.
-/
import Derived.Test.YtelcmkccfjdmjaaDoorProg
import Derived.Test.YtelcmkccfjdmjaaDoorGtC
import Derived.Lib.Join
namespace Go.Proofs.YtelcmkccfjdmjaaDoor
open Go.Proofs Go.RowKit Go.Shelf Go.Sort

theorem ba_appD (x y : List UInt8) : (⟨x.toArray⟩ ++ ⟨y.toArray⟩ : ByteArray) = ⟨(x ++ y).toArray⟩ := by
  apply ByteArray.ext
  simp

abbrev tlD (l : List ByteArray) : List (List UInt8) := l.map (·.data.toList)
/-- a line: a key, some words, and the line's end -/
def lineT (key : ByteArray) (l : List ByteArray) : ByteArray := ((key ++ ⟨#[32]⟩) ++ ⟨(Lib.join (tlD l) [32]).toArray⟩) ++ ⟨#[10]⟩

def keyG : ByteArray := ⟨#[103, 114, 97, 112, 104]⟩
def keyE : ByteArray := ⟨#[101]⟩

/-- the text of a graph, as far as its first k edges -/
def textK (g : GD) : Nat → ByteArray
  | 0 => lineT keyG [printI g.n, printI (g.es.length : Int)]
  | k + 1 => textK g k ++ (match g.es[k]? with | some e => lineT keyE (ofE e) | none => ByteArray.empty)
theorem textK_step (g : GD) (k : Nat) (h : k < g.es.length) : textK g (k + 1) = textK g k ++ lineT keyE (ofE g.es[k]) := by
  conv => lhs; unfold textK
  rw [List.getElem?_eq_getElem h]
def printG (g : GD) : ByteArray × Int := if rightG g ≠ 0 then (ByteArray.empty, 1) else (textK g g.es.length, 0)

theorem lineT_two (a b : ByteArray) : lineT keyG [a, b] = ((((⟨#[103, 114, 97, 112, 104, 32]⟩ : ByteArray) ++ a) ++ ⟨#[32]⟩) ++ b) ++ ⟨#[10]⟩ := by
  obtain ⟨⟨a⟩⟩ := a
  obtain ⟨⟨b⟩⟩ := b
  unfold lineT keyG
  rw [show Lib.join (tlD [⟨⟨a⟩⟩, ⟨⟨b⟩⟩]) [32] = a ++ [32] ++ b by simp [Lib.join_cons, Lib.joinTail, tlD]]
  rw [show (⟨#[103, 114, 97, 112, 104]⟩ : ByteArray) = ⟨[103, 114, 97, 112, 104].toArray⟩ from rfl, show (⟨#[103, 114, 97, 112, 104, 32]⟩ : ByteArray) = ⟨[103, 114, 97, 112, 104, 32].toArray⟩ from rfl, show (⟨#[32]⟩ : ByteArray) = ⟨[32].toArray⟩ from rfl, show (⟨#[10]⟩ : ByteArray) = ⟨[10].toArray⟩ from rfl,
    show (⟨⟨a⟩⟩ : ByteArray) = ⟨a.toArray⟩ from rfl, show (⟨⟨b⟩⟩ : ByteArray) = ⟨b.toArray⟩ from rfl]
  simp only [ba_appD]
  simp
theorem lineT_three (t a b c : ByteArray) : t ++ lineT keyE [a, b, c] = ((((((t ++ ⟨#[101, 32]⟩) ++ a) ++ ⟨#[32]⟩) ++ b) ++ ⟨#[32]⟩) ++ c) ++ ⟨#[10]⟩ := by
  obtain ⟨⟨a⟩⟩ := a
  obtain ⟨⟨b⟩⟩ := b
  obtain ⟨⟨c⟩⟩ := c
  obtain ⟨⟨t⟩⟩ := t
  unfold lineT keyE
  rw [show Lib.join (tlD [⟨⟨a⟩⟩, ⟨⟨b⟩⟩, ⟨⟨c⟩⟩]) [32] = a ++ [32] ++ b ++ [32] ++ c by simp [Lib.join_cons, Lib.joinTail, tlD]]
  rw [show (⟨#[101]⟩ : ByteArray) = ⟨[101].toArray⟩ from rfl, show (⟨#[101, 32]⟩ : ByteArray) = ⟨[101, 32].toArray⟩ from rfl, show (⟨#[32]⟩ : ByteArray) = ⟨[32].toArray⟩ from rfl, show (⟨#[10]⟩ : ByteArray) = ⟨[10].toArray⟩ from rfl,
    show (⟨⟨a⟩⟩ : ByteArray) = ⟨a.toArray⟩ from rfl, show (⟨⟨b⟩⟩ : ByteArray) = ⟨b.toArray⟩ from rfl, show (⟨⟨c⟩⟩ : ByteArray) = ⟨c.toArray⟩ from rfl, show (⟨⟨t⟩⟩ : ByteArray) = ⟨t.toArray⟩ from rfl]
  simp only [ba_appD]
  simp
theorem lineT_three_size (a b c : ByteArray) : (lineT keyE [a, b, c]).size = 5 + a.size + b.size + c.size := by
  have h := lineT_three ByteArray.empty a b c
  rw [ByteArray.empty_append] at h
  rw [h]
  simp only [ByteArray.size_append]
  have e0 : ByteArray.empty.size = 0 := rfl
  have e1 : (⟨#[101, 32]⟩ : ByteArray).size = 2 := rfl
  have e2 : (⟨#[32]⟩ : ByteArray).size = 1 := rfl
  have e3 : (⟨#[10]⟩ : ByteArray).size = 1 := rfl
  omega
theorem lineT_two_size (a b : ByteArray) : (lineT keyG [a, b]).size = 8 + a.size + b.size := by
  rw [lineT_two]
  simp only [ByteArray.size_append]
  have e1 : (⟨#[103, 114, 97, 112, 104, 32]⟩ : ByteArray).size = 6 := rfl
  have e2 : (⟨#[32]⟩ : ByteArray).size = 1 := rfl
  have e3 : (⟨#[10]⟩ : ByteArray).size = 1 := rfl
  omega

theorem textK_size (g : GD) (h : rightG g = 0) : ∀ k, k ≤ g.es.length → (textK g k).size ≤ 48 + 65 * k := by
  obtain ⟨n0, n1, m0, hes⟩ := gright_of h
  intro k
  induction k with
  | zero =>
    intro _
    unfold textK
    rw [lineT_two_size]
    have a := printI_size_le (n := g.n) (by omega) (by omega)
    have b := printI_size_le (n := (g.es.length : Int)) (by omega) (by omega)
    omega
  | succ k ih =>
    intro hk
    have h1 := hes g.es[k] (List.getElem_mem (by omega))
    rw [textK_step g k (by omega), ByteArray.size_append]
    unfold ofE
    rw [lineT_three_size]
    have a := printI_size_le (n := g.es[k].f) (by omega) (by omega)
    have b := printI_size_le (n := g.es[k].t) (by omega) (by omega)
    have c := printI_size_le (n := g.es[k].w) (by omega) (by omega)
    have := ih (by omega)
    omega

theorem bld_go {T e : TypeId} {B b : Nat} {bs : List Value} {w w' : World} (h : Lib.IsBuilder T e B b bs w) (hb : Below w.heap.size w w') : Lib.IsBuilder T e B b bs w' := by
  have key : ∀ p, Lib.BuilderAt T e B b p bs w → Lib.BuilderAt T e B b p bs w' := by
    rintro p ⟨h1, v, h2, h3, h4⟩
    exact ⟨h1, v, by rw [hb.block b (Array.getElem?_eq_some_iff.1 h2).1]; exact h2, owns_goD h3 hb, h4⟩
  rcases h with h | h
  · exact .inl (key _ h)
  · exact .inr (key _ h)

theorem cell_ltD {w : World} {a : Addr} {v : Value} (h : w.cell? a = some v) : a.block < w.heap.size := by
  unfold World.cell? at h
  rcases Nat.lt_or_ge a.block w.heap.size with h1 | h1
  · exact h1
  · rw [Array.getElem?_eq_none h1] at h
    simp at h

/-- strings.Join with a blank, at some words -/
theorem sJoinD_any (l : List ByteArray) (ao : Option Addr) (cap : Nat) (w : World) (hl : l.length ≤ 140737488355328) (hcap : l.length ≤ cap) (hlen : (Lib.join (tlD l) [32]).length ≤ 140737488355328) (hc : Cel w ao (l.map encS)) :
    Calls Tryd.prog 46 #[.slice ao l.length cap, .string ⟨#[32]⟩] w fun e w' => e = .returned (.string ⟨(Lib.join (tlD l) [32]).toArray⟩) ∧ Below w.heap.size w w' := by
  cases l with
  | nil => exact (Tryd.strings_Join_none ao cap ⟨#[32]⟩ w).mono fun e w' ⟨he, hw⟩ => ⟨he, hw ▸ Below.refl _ _⟩
  | cons x r =>
    obtain ⟨b, o, e, h0⟩ := hc 0 (encS x) rfl
    subst e
    refine Tryd.strings_Join b o cap (x :: r) ⟨#[32]⟩ w ?_ ?_ hl hcap hlen
    · intro j y hj
      obtain ⟨b', o', e', h'⟩ := hc j (encS y) (by rw [List.getElem?_map, hj]; rfl)
      cases e'
      exact h'
    · exact cell_ltD h0

def Tryd.lays166_ren : Go.Shelf.Ren := Tryd.lays156_ren
theorem Tryd.lays166 : Go.Proofs.Lays.n166 Tryd.prog Tryd.lays166_ren := { Tryd.lays156 with }
theorem WriteS_any (B b : Nat) (bs : List UInt8) (s : ByteArray) (w : World) (h : Lib.IsBuilder 127 5 B b (Lib.byteCells bs) w) (hlen : bs.length + s.size ≤ 140737488355328) (hBw : B ≤ w.heap.size) :
    Calls Tryd.prog 79 #[.pointer (some ⟨b, 0, none⟩), .string s] w fun e w' => e = .returned (.tuple #[.int .i64 s.size, .nilIface]) ∧ Lib.IsBuilder 127 5 B b (Lib.byteCells (bs ++ s.data.toList)) w' ∧ Below B w w' := by
  refine (Any.Builder_WriteString (ρ := Tryd.lays166_ren) Tryd.lays166 Tryd.Builder_Extra_156 B b (Lib.byteCells bs) s w h (by rw [Lib.byteCells_length]; exact hlen) hBw).mono ?_
  rintro e w' ⟨rfl, h1, h2⟩
  refine ⟨rfl, .inr ?_, h2⟩
  have e1 : Lib.byteCells (bs ++ s.data.toList) = Lib.byteCells bs ++ Lib.strCells s := by simp [Lib.byteCells, Lib.strCells]
  rw [e1]
  exact h1

end Go.Proofs.YtelcmkccfjdmjaaDoor
