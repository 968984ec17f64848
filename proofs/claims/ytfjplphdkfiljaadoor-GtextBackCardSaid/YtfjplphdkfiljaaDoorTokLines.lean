/-
  Walks: the lines of a text, token.Cut and Lines, their references, and the reference's Join.
-/
import Derived.Test.YtfjplphdkfiljaaDoorProg
import Derived.Test.YtfjplphdkfiljaaDoorTokA
import Derived.Test.YtfjplphdkfiljaaDoorTokJoin
namespace Go.Proofs.YtfjplphdkfiljaaDoor
open Go.Proofs Go.RowKit Go.Shelf

/-- what a cut answers -/
def cutV (s : ByteArray) : Value := match cutF s with
  | none => .tuple #[.string ByteArray.empty, .string s, .bool false]
  | some (l, r) => .tuple #[.string l, .string r, .bool true]
theorem cutV_none {s : ByteArray} (h : cutF s = none) : cutV s = .tuple #[.string ByteArray.empty, .string s, .bool false] := by unfold cutV; rw [h]
theorem cutV_some {s : ByteArray} {p : ByteArray × ByteArray} (h : cutF s = some p) : cutV s = .tuple #[.string p.1, .string p.2, .bool true] := by unfold cutV; rw [h]

/-- what strings.Cut answers at the line's end -/
def sCutV (s : ByteArray) : Value := if nlI s = -1 then .tuple #[.string s, .string ByteArray.empty, .bool false] else .tuple #[.string (s.extract 0 (nlI s).toNat), .string (s.extract ((nlI s).toNat + 1) s.size), .bool true]

set_option maxHeartbeats 400000 in
theorem sliteCut_any (s : ByteArray) (w : World) (hs : s.size ≤ 140737488355328) :
    Calls Tryd.prog 131 #[.string s, .string ⟨#[10]⟩] w fun e w' => e = .returned (sCutV s) ∧ Below w.heap.size w w' := by
  have HI := Lib.hid (fun W => Tryd.stringslite_Index_one s 10 W)
  rcases nlI_cases s with h | ⟨i, h, hi⟩
  · have hh : Lib.indexByte s.data.toList 10 = -1 := h
    rw [hh] at HI
    have HR := Lib.hid (show sCutV s = _ from if_pos h)
    clear h hh
    generalize sCutV s = r at *
    go_enter Tryd.func131, Tryd.ntmps131
    go_wp2_with (go_at_call 149; refine (HI.out _).mono ?_; rintro e w1 ⟨rfl, rfl⟩)
    go_ret3
    exact ⟨by rw [HR.out]; rfl, Below.refl _ _⟩
  · have hh : Lib.indexByte s.data.toList 10 = (i : Int) := h
    rw [hh] at HI
    have HR := Lib.hid (show sCutV s = .tuple #[.string (s.extract 0 i), .string (s.extract (i + 1) s.size), .bool true] by
      unfold sCutV; rw [if_neg (by omega), h]; rfl)
    clear h hh
    generalize sCutV s = r at *
    go_enter Tryd.func131, Tryd.ntmps131
    go_wp2_with (go_at_call 149; refine (HI.out _).mono ?_; rintro e w1 ⟨rfl, rfl⟩)
    go_region
    go_wp2
    go_ret3
    exact ⟨by rw [HR.out]; rfl, Below.of_dr _ 1⟩

theorem sCut_any (s : ByteArray) (w : World) (hs : s.size ≤ 140737488355328) :
    Calls Tryd.prog 104 #[.string s, .string ⟨#[10]⟩] w fun e w' => e = .returned (sCutV s) ∧ Below w.heap.size w w' := by
  have HI := Lib.hid (sliteCut_any s w hs)
  unfold sCutV at *
  split at HI
  · rename_i h
    rw [if_pos h]
    clear h
    go_enter Tryd.func104, Tryd.ntmps104
    go_wp2_with (go_at_call 131; refine HI.out.mono ?_; rintro e w1 ⟨rfl, hb1⟩)
    go_ret3
    exact ⟨rfl, hb1⟩
  · rename_i h
    rw [if_neg h]
    clear h
    go_enter Tryd.func104, Tryd.ntmps104
    go_wp2_with (go_at_call 131; refine HI.out.mono ?_; rintro e w1 ⟨rfl, hb1⟩)
    go_ret3
    exact ⟨rfl, hb1⟩

def nlL : List UInt8 := [10]
def crL : List UInt8 := [13]
theorem map10 : nlL.map (fun b => Value.int .u8 (b.toNat : Int)) = [.int .u8 10] := by simp [nlL]
theorem map13 : crL.map (fun b => Value.int .u8 (b.toNat : Int)) = [.int .u8 13] := by simp [crL]
theorem cel_one (w : World) (x : Value) (E : TypeId) : Cel (w.alloc (.cells #[x] E)) (some ⟨w.heap.size, 0, none⟩) [x] := cel_new w #[x] E _

set_option maxHeartbeats 1000000 in
set_option maxRecDepth 100000 in
theorem Cut_any (s : ByteArray) (w : World) (hs : s.size ≤ 140737488355328) :
    Calls Tryd.prog 135 #[.string s] w fun e w' => e = .returned (cutV s) ∧ Below w.heap.size w w' := by
  have HI := Lib.hid (fun W => sCut_any s W hs)
  rcases nlI_cases s with h | ⟨i, h, hi⟩
  · have HR := Lib.hid (cutV_none (cutF_none h))
    have HV := Lib.hid (show sCutV s = _ from if_pos h)
    rw [HV.out] at HI
    clear HV h
    generalize cutV s = r at *
    go_enter Tryd.func135, Tryd.ntmps135
    go_wp2_with (first
      | ((with_reducible refine wpList_string_of 5 nlL (some ⟨w.heap.size, 0, none⟩) 1 1 ?_ ?_ ?_ Tryd.underlying84 Tryd.underlying9 Tryd.underlying5 ?_); (· rfl); (· rfl); (· rw [map10]; exact cel_one _ _ _))
      | (go_at_call 104; refine (HI.out _).mono ?_; rintro e w1 ⟨rfl, hb1⟩))
    go_ret3
    exact ⟨by rw [HR.out]; rfl, (Below.of_al _ _).st hb1⟩
  · have HR := Lib.hid (cutV_some (cutF_some h))
    have HV := Lib.hid (show sCutV s = .tuple #[.string (s.extract 0 i), .string (s.extract (i + 1) s.size), .bool true] by
      unfold sCutV; rw [if_neg (by omega), h]; rfl)
    rw [HV.out] at HI
    have HT := Lib.hid (fun W => Tryd.strings_TrimSuffix (s.extract 0 i) ⟨#[13]⟩ W (by rw [ext_list s 0 i (by omega)]; omega))
    unfold cutAt at HR
    clear HV h
    generalize cutV s = r at *
    generalize s.extract 0 i = xa at *
    generalize s.extract (i + 1) s.size = xb at *
    go_enter Tryd.func135, Tryd.ntmps135
    go_wp2_with (first
      | ((with_reducible refine wpList_string_of 5 nlL (some ⟨w.heap.size, 0, none⟩) 1 1 ?_ ?_ ?_ Tryd.underlying84 Tryd.underlying9 Tryd.underlying5 ?_); (· rfl); (· rfl); (· rw [map10]; exact cel_one _ _ _))
      | ((with_reducible refine wpList_string_of 5 crL (some ⟨w1.heap.size, 0, none⟩) 1 1 ?_ ?_ ?_ Tryd.underlying84 Tryd.underlying9 Tryd.underlying5 ?_); (· rfl); (· rfl); (· rw [map13]; exact cel_one _ _ _))
      | (go_at_call 104; refine (HI.out _).mono ?_; rintro e w1 ⟨rfl, hb1⟩; (have HB1 := Lib.hid hb1; clear hb1))
      | (go_at_call 152; refine (HT.out _).mono ?_; rintro e w2 ⟨rfl, rfl⟩))
    go_ret3
    exact ⟨by rw [HR.out]; rfl, ((Below.of_al _ _).st HB1.out).al _⟩

theorem u8_10 {c : UInt8} (h : (c.toNat : Int) = 10) : c = 10 := by
  apply UInt8.toNat_inj.1
  have : c.toNat = 10 := by omega
  rw [this]
  rfl
theorem u8_13 {c : UInt8} (h : (c.toNat : Int) = 13) : c = 13 := by
  apply UInt8.toNat_inj.1
  have : c.toNat = 13 := by omega
  rw [this]
  rfl
theorem ba_get_lt {s : ByteArray} {k : Nat} (h : k < s.size) : (s[k].toNat : Int) ≤ 255 := by have := s[k].toNat_lt; omega

theorem owns_go {w w' : World} {base : Nat} {e : TypeId} {size n : Nat} {v : Value} {xs : List Value} (h : w.ownsRow base e size v n xs) (hb : Below w.heap.size w w') : w'.ownsRow base e size v n xs := by
  refine ⟨h.1, ?_⟩
  rcases h.2 with h2 | ⟨g, cap, cur, hv, hbg, hg, r⟩
  · exact .inl h2
  · exact .inr ⟨g, cap, cur, hv, hbg, by rw [hb.block g (Array.getElem?_eq_some_iff.1 hg).1]; exact hg, r⟩

/-- what Lines leaves -/
def LinesPost (w : World) (r : List ByteArray × ByteArray) (e : Ending) (w' : World) : Prop :=
  ∃ ao cap, e = .returned (.tuple #[.slice ao r.1.length cap, .string r.2]) ∧ Cel w' ao (r.1.map encS) ∧ Below w.heap.size w w' ∧ r.1.length ≤ 140737488355328 ∧ r.2.size ≤ 140737488355328

set_option maxHeartbeats 1000000 in
theorem Lines_any (s : ByteArray) (w : World) (hs : s.size ≤ 1099511627776) :
    Calls Tryd.prog 110 #[.string s] w (LinesPost w (linesF s)) := by
  have HEND := Lib.hid (fun O t h1 h2 => ls_end (s := s) (O := O) (t := t) h1 h2)
  have hst := ls_start s
  generalize linesF s = r at *
  go_enter Tryd.func110, Tryd.ntmps110
  repeat go_step
  refine wp_scope_labels 0 (fun _ _ _ _ => False) ?_ (fun _ _ _ _ h => h.elim)
  go_wp2
  go_step3
  repeat go_step
  go_loopg [0, 2] s.size (fun g t v wr => ∃ (u : ByteArray) (cap : Nat) (ao : Option Addr) (O : List ByteArray), u.size ≤ g ∧ t = .string u ∧ v = .slice ao O.length cap ∧ O.length + u.size ≤ s.size ∧ w.heap.size ≤ wr.heap.size ∧
    Aside (LS s O u) ∧ Aside (wr.ownsRow w.heap.size 9 1 (.slice ao O.length cap) O.length (O.map encS) ∧ Below w.heap.size w wr))
  case atStart => exact ⟨s, 0, none, [], Nat.le_refl _, rfl, rfl, by simp, Nat.le_refl _, hst, World.ownsRow_nil _ _ _ _, Below.refl _ _⟩
  case round =>
    obtain ⟨u, cap, ao, O, hg, rfl, rfl, hO, hsz, HW, HA⟩ := hrel
    have HCUT := Lib.hid (Cut_any u wr (by omega))
    cases hc : cutF u with
    | none =>
      rw [cutV_none hc] at HCUT
      have HR := Lib.hid (HEND.out O u HW.out hc)
      clear hc
      go_wp2_with (go_at_call 135; refine HCUT.out.mono ?_; rintro e w1 ⟨rfl, hb1⟩)
      go_ret2
      refine ⟨ao, cap, by rw [HR.out]; rfl, ?_, HA.out.2.st hb1, by rw [HR.out]; show O.length ≤ _; omega, by rw [HR.out]; show u.size ≤ _; omega⟩
      rw [HR.out]
      obtain ⟨ao3, cap3, e3, h3⟩ := Cel.of_owns HA.out.1
      cases e3
      exact h3.go hb1
    | some p =>
      obtain ⟨l, q⟩ := p
      rw [cutV_some hc] at HCUT
      have hz := cutF_size hc
      have HS := Lib.hid (ls_step HW.out hc)
      have HM := Lib.hid (show (O ++ [l]).map encS = O.map encS ++ [encS l] by simp)
      clear hc
      go_wp2_with (first
        | (go_at_call 135; refine HCUT.out.mono ?_; rintro e w1 ⟨rfl, hb1⟩; (have HO1 := Lib.hid (owns_go HA.out.1 hb1); have HB1 := Lib.hid (HA.out.2.st hb1); have hs1 : w.heap.size ≤ w1.heap.size := by (have := hb1.size; omega)); clear hb1)
        | (at_builtin; go_must ((with_reducible refine wpList_app w.heap.size 9 _ 1 16 elem_string Tryd.underlying54 (.slice ao O.length cap) O.length _ ⟨w1.heap.size, 0, none⟩ 1 1 ?_ ?_ ?_ (World.ownsRow.alloc HO1.out _) ?_ ?_ ?_ ?_); rotate_left 1; (· rfl); (· rfl); (· exact cell_one_new _ _ _); (· exact one_cells rfl); (· exact ⟨rfl, by decide, by omega, by omega, by simp; omega⟩); intro g2 cap2 w2 hown hgrow hbl hat hlt2; (have H2o := Lib.hid hown; have H2b := Lib.hid hbl; have H2g := Lib.hid (And.intro hgrow hat); clear hown hgrow hbl hat))))
      go_roundg q.size
      case measure => omega
      case rel =>
        refine ⟨q, cap2, some ⟨g2, 0, none⟩, O ++ [l], Nat.le_refl _, rfl, by simp, by simp; omega, by have := H2b.out.size; simp at this; omega, HS.out, ?_, (HB1.out.al _).trans H2b.out⟩
        rw [HM.out]
        simpa using H2o.out

end Go.Proofs.YtfjplphdkfiljaaDoor
