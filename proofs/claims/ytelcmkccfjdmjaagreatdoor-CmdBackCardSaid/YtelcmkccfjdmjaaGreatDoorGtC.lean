/-
  Walks of the references of package gtext: the words of a graph.
  Package gtext: the text of a graph, as plain Lean, and the closure that writes a line.
-/
import Derived.Test.YtelcmkccfjdmjaaGreatDoorProg
import Derived.Test.YtelcmkccfjdmjaaGreatDoorGtA
import Derived.Test.YtelcmkccfjdmjaaGreatDoorGraphD
import Derived.Test.YtelcmkccfjdmjaaGreatDoorQTail
import Derived.Lib.Join
namespace Go.Proofs.YtelcmkccfjdmjaaGreatDoor
open Go.Proofs Go.RowKit Go.Shelf Go.Sort

theorem below_app {w1 wr w5 w6 : World} (h1 : Below w1.heap.size w1 wr) (h2 : Below wr.heap.size wr w5) (o : Obj) (h3 : Below w1.heap.size (w5.alloc o) w6) : Below w1.heap.size wr w6 := by
  have h4 : Below w1.heap.size wr w5 := h2.mono h1.size
  exact (h4.trans ((Below.of_al w5 o).mono (by have := h1.size; have := h2.size; omega))).trans h3

set_option maxHeartbeats 4000000 in
theorem refGWords_any (g : GD) (ao : Option Addr) (cap : Nat) (w : World) (hl : g.es.length ≤ 9223372036854775807) (hc : Cel w ao (flat g.es)) :
    Calls Tryz.prog 102 #[.agg #[.int .i64 g.n, .slice ao g.es.length cap]] w (GWordsPost w (wordsG g)) := by
  have HC := Lib.hid hc
  have HR := Lib.hid (fun W h => refRightG_any g ao cap W hl h)
  clear hc
  by_cases h1 : rightG g = 0
  · obtain ⟨n0, n1, m0, hes⟩ := gright_of h1
    by_cases h2 : 16384 < 2 + 3 * g.es.length
    · have HQ := Lib.hid (show wordsG g = ([], 5) by unfold wordsG; rw [if_neg (by simp [h1]), if_pos h2])
      rw [h1] at HR
      generalize wordsG g = r at *
      clear h1 hes
      go_enter Tryz.func102, Tryz.ntmps102
      go_wp2_with fail
      obtain ⟨W, hW, c0, c1, hsW⟩ : ∃ W, W = w.alloc (Obj.cells #[.int .i64 g.n, .slice ao g.es.length cap] 53) ∧ W.cell? ⟨w.heap.size, 0, none⟩ = some (.int .i64 g.n) ∧ W.cell? ⟨w.heap.size, 1, none⟩ = some (.slice ao g.es.length cap) ∧ w.heap.size < W.heap.size := ⟨_, rfl, by go_simp, by go_simp, by simp⟩
      rw [← hW]
      have HW := Lib.hid (show Below w.heap.size w W by rw [hW]; repeat (first | exact Below.refl _ _ | refine Below.al ?_ _ | refine Below.dr ?_ _ | refine Below.drew ?_ | assumption | (refine Below.st ?_ (by assumption))))
      clear hW
      refine (HR.out _ (HC.out.go HW.out)).mono ?_
      rintro e w1 ⟨rfl, hb1⟩
      have m0' := cell_later hb1 c0
      have m1' := cell_later hb1 c1
      go_wp2
      go_ret2
      exact ⟨none, 0, by rw [HQ.out]; rfl, by rw [HQ.out]; exact Cel.nil _ _, HW.out.st hb1⟩
    · have HQ := Lib.hid (show wordsG g = (wordsK g g.es.length, 0) by unfold wordsG; rw [if_neg (by simp [h1]), if_neg h2])
      rw [h1] at HR
      have HI1 := Lib.hid (fun W => refnumber_any g.n (by omega) (by omega) W)
      have HI2 := Lib.hid (fun W => refnumber_any (g.es.length : Int) (by omega) (by omega) W)
      have HK0 := Lib.hid (show (wordsK g 0).map encS = [.string (printI g.n), .string (printI (g.es.length : Int))] by rw [wordsK_zero]; rfl)
      have HKS := Lib.hid (wordsK_step g)
      have HKL := Lib.hid (wordsK_length g)
      have HES := Lib.hid hes
      generalize wordsG g = r at *
      clear h1 hes
      generalize printI g.n = p1 at *
      generalize printI (g.es.length : Int) = p2 at *
      go_enter Tryz.func102, Tryz.ntmps102
      go_wp2_with fail
      obtain ⟨W, hW, c0, c1, hsW⟩ : ∃ W, W = w.alloc (Obj.cells #[.int .i64 g.n, .slice ao g.es.length cap] 53) ∧ W.cell? ⟨w.heap.size, 0, none⟩ = some (.int .i64 g.n) ∧ W.cell? ⟨w.heap.size, 1, none⟩ = some (.slice ao g.es.length cap) ∧ w.heap.size < W.heap.size := ⟨_, rfl, by go_simp, by go_simp, by simp⟩
      rw [← hW]
      have HW := Lib.hid (show Below w.heap.size w W by rw [hW]; repeat (first | exact Below.refl _ _ | refine Below.al ?_ _ | refine Below.dr ?_ _ | refine Below.drew ?_ | assumption | (refine Below.st ?_ (by assumption))))
      clear hW
      refine (HR.out _ (HC.out.go HW.out)).mono ?_
      rintro e w1 ⟨rfl, hb1⟩
      have k0 := cell_later hb1 c0
      have k1 := cell_later hb1 c1
      have HW1 := Lib.hid (HW.out.st hb1)
      clear c0 c1 hb1 HW hsW
      go_wp2_with fail
      have K0 := fun p => cell_ext p k0
      have K1 := fun p => cell_ext p k1
      refine wp_region_ext_tail 7 (by kernel_rfl) (by kernel_rfl) ?_
      simp only [List.take_succ_cons, List.take_zero, List.drop_succ_cons, List.drop_zero]
      repeat (go_big_quiet_step ((first
        | (go_at_call_of 145 (Value.int IntKind.i64 g.n); exact Calls.ext_of (HI1.out _))
        | (go_at_call 145; exact Calls.ext_of (HI2.out _)))))
      refine wpQuiet_nil ?_
      rintro _ ⟨p3, rfl⟩
      have HB3 := Lib.hid (below_ext w1 p3)
      generalize ext w1 p3 = w3 at HB3 ⊢
      clear K0 K1
      go_wp2_with fail
      obtain ⟨W4, hW4⟩ : ∃ W4, W4 = w3.alloc (Obj.cells #[Value.string p1, Value.string p2] 9) := ⟨_, rfl⟩
      have HO4 := Lib.hid (show W4.ownsRow w1.heap.size 9 1 (.slice (some ⟨w3.heap.size, 0, none⟩) 2 2) 2 ((wordsK g 0).map encS) by rw [HK0.out, hW4]; exact World.ownsRow_lit (base := w1.heap.size) (e := 9) (size := 1) w3 #[.string p1, .string p2] 2 (by have b := HB3.out.size; omega) (by decide) rfl)
      rw [← hW4]
      have HB4 := Lib.hid (show Below w1.heap.size w1 W4 by rw [hW4]; exact HB3.out.al _)
      clear hW4 HB3 HI1 HI2 HK0
      generalize w3.heap.size = q3 at *
      go_loopg [4, 5] g.es.length (fun gq v4 v5 wr => ∃ (k a c : Nat), k ≤ g.es.length ∧ g.es.length - k ≤ gq ∧ v5 = .int .i64 k ∧ v4 = .slice (some ⟨a, 0, none⟩) (2 + 3 * k) c ∧ Aside (wr.ownsRow w1.heap.size 9 1 (.slice (some ⟨a, 0, none⟩) (2 + 3 * k) c) (2 + 3 * k) ((wordsK g k).map encS)) ∧ Aside (Below w1.heap.size w1 wr))
      case atStart => exact ⟨0, q3, 2, Nat.zero_le _, by omega, rfl, rfl, HO4.out, HB4.out⟩
      case round =>
        obtain ⟨k, a, c, hk, hg, rfl, rfl, HO, HB⟩ := hrel
        have r1 := cell_later HB.out k1
        by_cases hlt : k < g.es.length
        · obtain ⟨b, o, hao, f1, f2, f3⟩ := (HC.out.go (HW1.out.st HB.out)).edge hlt
          have HE := Lib.hid (HES.out _ (List.getElem_mem hlt))
          have HS := Lib.hid (HKS.out k hlt)
          subst hao
          obtain ⟨x, hxe⟩ : ∃ x, g.es[k] = x := ⟨_, rfl⟩
          rw [hxe] at f1 f2 f3 HE HS
          have HF1 := Lib.hid (fun W => refnumber_any x.f (by have := HE.out; omega) (by have := HE.out; omega) W)
          have HF2 := Lib.hid (fun W => refnumber_any x.t (by have := HE.out; omega) (by have := HE.out; omega) W)
          have HF3 := Lib.hid (fun W => refPrint_any x.w (by have := HE.out; omega) (by have := HE.out; omega) W)
          have HX := Lib.hid (show (ofE x).map encS = [.string (printI x.f), .string (printI x.t), .string (printI x.w)] from rfl)
          clear hxe HR HES HKS HE
          obtain ⟨xf, xt, xw⟩ := x
          simp only at f1 f2 f3 HF1 HF2 HF3 HX
          generalize ofE ⟨xf, xt, xw⟩ = L at *
          generalize printI xf = q1 at *
          generalize printI xt = q2 at *
          generalize printI xw = q4 at *
          have R1 := fun p => cell_ext p r1
          have F1 := fun p => cell_ext p f1
          have F2 := fun p => cell_ext p f2
          have F3 := fun p => cell_ext p f3
          go_wp2_with fail
          refine wp_region_ext_tail1 21 (by kernel_rfl) (by kernel_rfl) (fun _ _ _ h => h) ?_
          simp only [List.take_succ_cons, List.take_zero, List.drop_succ_cons, List.drop_zero, Act.put, Act.eval, List.setIfInBounds_toArray, List.set_cons_zero, List.set_cons_succ]
          repeat (go_big_quiet_step ((first
            | (go_at_call_of 145 (Value.int IntKind.i64 xf); exact Calls.ext_of (HF1.out _))
            | (go_at_call_of 145 (Value.int IntKind.i64 xt); exact Calls.ext_of (HF2.out _))
            | (go_at_call 46; exact Calls.ext_of (HF3.out _)))))
          refine wpQuiet_nil ?_
          rintro _ ⟨p5, rfl⟩
          have HB5 := Lib.hid (below_ext wr p5)
          generalize ext wr p5 = w5 at HB5 ⊢
          clear R1 F1 F2 F3
          have HO5 := Lib.hid (owns_goD HO.out HB5.out)
          go_wp2_with (at_builtin; go_must ((with_reducible refine wpList_app w1.heap.size 9 _ 1 16 elem_str Tryz.underlying26 (.slice (some ⟨a, 0, none⟩) (2 + 3 * k) c) (2 + 3 * k) _ ⟨w5.heap.size, 0, none⟩ 3 3 (L.map encS) ?_ ?_ (World.ownsRow.alloc HO5.out _) (cel_news (by rw [HX.out]; exact cel_new _ _ _ _)) (one_strs _) ⟨by rw [HX.out]; simp, by decide, by omega, by omega, by have := HB.out.size; have := HB5.out.size; simp; omega⟩ ?_); (· rfl); (· rfl); intro g6 cap6 w6 hown hgrow hbl hat hlt6; (have HO6 := Lib.hid hown; have HB6 := Lib.hid (below_app HB.out HB5.out _ hbl); clear hown hgrow hbl hat)))
          go_roundg (g.es.length - (k + 1))
          case measure => omega
          case rel => exact ⟨k + 1, g6, cap6, by omega, by omega, by go_num, rfl, by rw [HS.out, List.map_append]; exact HO6.out, HB.out.trans HB6.out⟩
        · obtain rfl : k = g.es.length := by omega
          obtain ⟨ao7, cap7, e7, hc7⟩ := Cel.of_owns HO.out
          cases e7
          have HL := Lib.hid (HKL.out _ (Nat.le_refl _))
          have HC7 := Lib.hid hc7
          clear hc7
          go_wp2
          go_ret2
          exact ⟨_, c, by rw [HQ.out]; show _ = Ending.returned (.tuple #[.slice _ (wordsK g g.es.length).length c, .int .i64 0]); rw [HL.out]; rfl, by rw [HQ.out]; exact HC7.out, HW1.out.st HB.out⟩
  · have HQ := Lib.hid (show wordsG g = ([], 1) by unfold wordsG; rw [if_pos h1])
    have hne : (rightG g != 0) = true := by simpa using h1
    generalize rightG g = q at *
    generalize wordsG g = r at *
    go_enter Tryz.func102, Tryz.ntmps102
    go_wp2_with fail
    obtain ⟨W, hW, c0, c1, hsW⟩ : ∃ W, W = w.alloc (Obj.cells #[.int .i64 g.n, .slice ao g.es.length cap] 53) ∧ W.cell? ⟨w.heap.size, 0, none⟩ = some (.int .i64 g.n) ∧ W.cell? ⟨w.heap.size, 1, none⟩ = some (.slice ao g.es.length cap) ∧ w.heap.size < W.heap.size := ⟨_, rfl, by go_simp, by go_simp, by simp⟩
    rw [← hW]
    have HW := Lib.hid (show Below w.heap.size w W by rw [hW]; repeat (first | exact Below.refl _ _ | refine Below.al ?_ _ | refine Below.dr ?_ _ | refine Below.drew ?_ | assumption | (refine Below.st ?_ (by assumption))))
    clear hW
    refine (HR.out _ (HC.out.go HW.out)).mono ?_
    rintro e w1 ⟨rfl, hb1⟩
    go_wp2
    go_ret2
    exact ⟨none, 0, by rw [HQ.out]; rfl, by rw [HQ.out]; exact Cel.nil _ _, HW.out.st hb1⟩

end Go.Proofs.YtelcmkccfjdmjaaGreatDoor

namespace Go.Proofs.YtelcmkccfjdmjaaGreatDoor
open Go.Proofs Go.RowKit Go.Shelf Go.Sort

theorem ba_appD (x y : List UInt8) : (⟨x.toArray⟩ ++ ⟨y.toArray⟩ : ByteArray) = ⟨(x ++ y).toArray⟩ := by
  apply ByteArray.ext
  simp

abbrev tlD (l : List ByteArray) : List (List UInt8) := l.map (·.data.toList)
/-- a line: a key, some words, and the line's end -/
def lineT (key : ByteArray) (l : List ByteArray) : ByteArray := ((key ++ ⟨#[32]⟩) ++ ⟨(Lib.join (tlD l) [32]).toArray⟩) ++ ⟨#[10]⟩

def keyG : ByteArray := ⟨#[103, 114, 97, 112, 104]⟩
def keyE : ByteArray := ⟨#[101]⟩

/-- the text of a graph, as far as its first k edges -/
def textK (g : GD) : Nat → ByteArray
  | 0 => lineT keyG [printI g.n, printI (g.es.length : Int)]
  | k + 1 => textK g k ++ (match g.es[k]? with | some e => lineT keyE (ofE e) | none => ByteArray.empty)
theorem textK_step (g : GD) (k : Nat) (h : k < g.es.length) : textK g (k + 1) = textK g k ++ lineT keyE (ofE g.es[k]) := by
  conv => lhs; unfold textK
  rw [List.getElem?_eq_getElem h]
def printG (g : GD) : ByteArray × Int := if rightG g ≠ 0 then (ByteArray.empty, 1) else (textK g g.es.length, 0)

theorem lineT_two (a b : ByteArray) : lineT keyG [a, b] = ((((⟨#[103, 114, 97, 112, 104, 32]⟩ : ByteArray) ++ a) ++ ⟨#[32]⟩) ++ b) ++ ⟨#[10]⟩ := by
  obtain ⟨⟨a⟩⟩ := a
  obtain ⟨⟨b⟩⟩ := b
  unfold lineT keyG
  rw [show Lib.join (tlD [⟨⟨a⟩⟩, ⟨⟨b⟩⟩]) [32] = a ++ [32] ++ b by simp [Lib.join_cons, Lib.joinTail, tlD]]
  rw [show (⟨#[103, 114, 97, 112, 104]⟩ : ByteArray) = ⟨[103, 114, 97, 112, 104].toArray⟩ from rfl, show (⟨#[103, 114, 97, 112, 104, 32]⟩ : ByteArray) = ⟨[103, 114, 97, 112, 104, 32].toArray⟩ from rfl, show (⟨#[32]⟩ : ByteArray) = ⟨[32].toArray⟩ from rfl, show (⟨#[10]⟩ : ByteArray) = ⟨[10].toArray⟩ from rfl,
    show (⟨⟨a⟩⟩ : ByteArray) = ⟨a.toArray⟩ from rfl, show (⟨⟨b⟩⟩ : ByteArray) = ⟨b.toArray⟩ from rfl]
  simp only [ba_appD]
  simp
theorem lineT_three (t a b c : ByteArray) : t ++ lineT keyE [a, b, c] = ((((((t ++ ⟨#[101, 32]⟩) ++ a) ++ ⟨#[32]⟩) ++ b) ++ ⟨#[32]⟩) ++ c) ++ ⟨#[10]⟩ := by
  obtain ⟨⟨a⟩⟩ := a
  obtain ⟨⟨b⟩⟩ := b
  obtain ⟨⟨c⟩⟩ := c
  obtain ⟨⟨t⟩⟩ := t
  unfold lineT keyE
  rw [show Lib.join (tlD [⟨⟨a⟩⟩, ⟨⟨b⟩⟩, ⟨⟨c⟩⟩]) [32] = a ++ [32] ++ b ++ [32] ++ c by simp [Lib.join_cons, Lib.joinTail, tlD]]
  rw [show (⟨#[101]⟩ : ByteArray) = ⟨[101].toArray⟩ from rfl, show (⟨#[101, 32]⟩ : ByteArray) = ⟨[101, 32].toArray⟩ from rfl, show (⟨#[32]⟩ : ByteArray) = ⟨[32].toArray⟩ from rfl, show (⟨#[10]⟩ : ByteArray) = ⟨[10].toArray⟩ from rfl,
    show (⟨⟨a⟩⟩ : ByteArray) = ⟨a.toArray⟩ from rfl, show (⟨⟨b⟩⟩ : ByteArray) = ⟨b.toArray⟩ from rfl, show (⟨⟨c⟩⟩ : ByteArray) = ⟨c.toArray⟩ from rfl, show (⟨⟨t⟩⟩ : ByteArray) = ⟨t.toArray⟩ from rfl]
  simp only [ba_appD]
  simp
theorem lineT_three_size (a b c : ByteArray) : (lineT keyE [a, b, c]).size = 5 + a.size + b.size + c.size := by
  have h := lineT_three ByteArray.empty a b c
  rw [ByteArray.empty_append] at h
  rw [h]
  simp only [ByteArray.size_append]
  have e0 : ByteArray.empty.size = 0 := rfl
  have e1 : (⟨#[101, 32]⟩ : ByteArray).size = 2 := rfl
  have e2 : (⟨#[32]⟩ : ByteArray).size = 1 := rfl
  have e3 : (⟨#[10]⟩ : ByteArray).size = 1 := rfl
  omega
theorem lineT_two_size (a b : ByteArray) : (lineT keyG [a, b]).size = 8 + a.size + b.size := by
  rw [lineT_two]
  simp only [ByteArray.size_append]
  have e1 : (⟨#[103, 114, 97, 112, 104, 32]⟩ : ByteArray).size = 6 := rfl
  have e2 : (⟨#[32]⟩ : ByteArray).size = 1 := rfl
  have e3 : (⟨#[10]⟩ : ByteArray).size = 1 := rfl
  omega

theorem textK_size (g : GD) (h : rightG g = 0) : ∀ k, k ≤ g.es.length → (textK g k).size ≤ 48 + 65 * k := by
  obtain ⟨n0, n1, m0, hes⟩ := gright_of h
  intro k
  induction k with
  | zero =>
    intro _
    unfold textK
    rw [lineT_two_size]
    have a := printI_size_le (n := g.n) (by omega) (by omega)
    have b := printI_size_le (n := (g.es.length : Int)) (by omega) (by omega)
    omega
  | succ k ih =>
    intro hk
    have h1 := hes g.es[k] (List.getElem_mem (by omega))
    rw [textK_step g k (by omega), ByteArray.size_append]
    unfold ofE
    rw [lineT_three_size]
    have a := printI_size_le (n := g.es[k].f) (by omega) (by omega)
    have b := printI_size_le (n := g.es[k].t) (by omega) (by omega)
    have c := printI_size_le (n := g.es[k].w) (by omega) (by omega)
    have := ih (by omega)
    omega

theorem bld_go {T e : TypeId} {B b : Nat} {bs : List Value} {w w' : World} (h : Lib.IsBuilder T e B b bs w) (hb : Below w.heap.size w w') : Lib.IsBuilder T e B b bs w' := by
  have key : ∀ p, Lib.BuilderAt T e B b p bs w → Lib.BuilderAt T e B b p bs w' := by
    rintro p ⟨h1, v, h2, h3, h4⟩
    exact ⟨h1, v, by rw [hb.block b (Array.getElem?_eq_some_iff.1 h2).1]; exact h2, owns_goD h3 hb, h4⟩
  rcases h with h | h
  · exact .inl (key _ h)
  · exact .inr (key _ h)

theorem cell_ltD {w : World} {a : Addr} {v : Value} (h : w.cell? a = some v) : a.block < w.heap.size := by
  unfold World.cell? at h
  rcases Nat.lt_or_ge a.block w.heap.size with h1 | h1
  · exact h1
  · rw [Array.getElem?_eq_none h1] at h
    simp at h

/-- strings.Join with a blank, at some words -/
theorem sJoinD_any (l : List ByteArray) (ao : Option Addr) (cap : Nat) (w : World) (hl : l.length ≤ 140737488355328) (hcap : l.length ≤ cap) (hlen : (Lib.join (tlD l) [32]).length ≤ 140737488355328) (hc : Cel w ao (l.map encS)) :
    Calls Tryz.prog 44 #[.slice ao l.length cap, .string ⟨#[32]⟩] w fun e w' => e = .returned (.string ⟨(Lib.join (tlD l) [32]).toArray⟩) ∧ Below w.heap.size w w' := by
  cases l with
  | nil => exact (Tryz.strings_Join_none ao cap ⟨#[32]⟩ w).mono fun e w' ⟨he, hw⟩ => ⟨he, hw ▸ Below.refl _ _⟩
  | cons x r =>
    obtain ⟨b, o, e, h0⟩ := hc 0 (encS x) rfl
    subst e
    refine Tryz.strings_Join b o cap (x :: r) ⟨#[32]⟩ w ?_ ?_ hl hcap hlen
    · intro j y hj
      obtain ⟨b', o', e', h'⟩ := hc j (encS y) (by rw [List.getElem?_map, hj]; rfl)
      cases e'
      exact h'
    · exact cell_ltD h0

def Tryz.lays166_ren : Go.Shelf.Ren := Tryz.lays156_ren
theorem Tryz.lays166 : Go.Proofs.Lays.n166 Tryz.prog Tryz.lays166_ren := { Tryz.lays156 with }
theorem WriteS_any (B b : Nat) (bs : List UInt8) (s : ByteArray) (w : World) (h : Lib.IsBuilder 129 5 B b (Lib.byteCells bs) w) (hlen : bs.length + s.size ≤ 140737488355328) (hBw : B ≤ w.heap.size) :
    Calls Tryz.prog 92 #[.pointer (some ⟨b, 0, none⟩), .string s] w fun e w' => e = .returned (.tuple #[.int .i64 s.size, .nilIface]) ∧ Lib.IsBuilder 129 5 B b (Lib.byteCells (bs ++ s.data.toList)) w' ∧ Below B w w' := by
  refine (Any.Builder_WriteString (ρ := Tryz.lays166_ren) Tryz.lays166 Tryz.Builder_Extra_156 B b (Lib.byteCells bs) s w h (by rw [Lib.byteCells_length]; exact hlen) hBw).mono ?_
  rintro e w' ⟨rfl, h1, h2⟩
  refine ⟨rfl, .inr ?_, h2⟩
  have e1 : Lib.byteCells (bs ++ s.data.toList) = Lib.byteCells bs ++ Lib.strCells s := by simp [Lib.byteCells, Lib.strCells]
  rw [e1]
  exact h1

end Go.Proofs.YtelcmkccfjdmjaaGreatDoor
