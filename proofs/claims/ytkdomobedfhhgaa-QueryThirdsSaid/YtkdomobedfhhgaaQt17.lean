/-
  Walk of package contract: the lightest arcs to a node and from it.
  append of a row that may be empty onto a row of one's own.
-/
import Derived.Test.YtkdomobedfhhgaaProg
import Derived.Test.YtkdomobedfhhgaaQt15
import Derived.Test.YtkdomobedfhhgaaQt16
import Derived.Test.YtkdomobedfhhgaaQt01
import Derived.Laws.OwnMore
import Derived.Below
set_option linter.unusedVariables false
set_option linter.unusedSimpArgs false
set_option linter.unnecessarySimpa false
section
namespace Go.Proofs.Ytkdomobedfhhgaa
open Go Go.Proofs Go.RowKit Go.Shelf Go.Proofs.Ytkdomobedfhhgaa.Hp Go.Proofs.Ytkdomobedfhhgaa.Ch

set_option maxRecDepth 100000 in
set_option maxHeartbeats 2000000 in
theorem lightest1_any (gone : List Bool) (v u V N gb gof cg b n : Nat) (x : Int) (m : Int → Option Int) (w : World) (hV : w.cell? ⟨V, 0, none⟩ = some (.int .i64 v)) (hN : w.cell? ⟨N, 1, none⟩ = some (.slice (some ⟨gb, gof, none⟩) gone.length cg))
    (hg : ∀ k (hk : k < gone.length), w.cell? ⟨gb, gof + k, none⟩ = some (.bool gone[k])) (hu : u < gone.length) (hul : gone.length ≤ 60000) (hm : MapW w b n m) (hn : n < 1000000000000000000) (hx : 0 ≤ x ∧ x ≤ 18446744073709551615) :
    Calls Try.prog 58 (#[.map (some b), .int .i64 u, .int .u64 x] ++ #[.pointer (some ⟨V, 0, none⟩), .pointer (some ⟨N, 0, none⟩)]) w fun e w' => e = .returned (.tuple #[]) ∧ MapW w' b (n + 1) (updF gone v m u x) ∧ OffX (· = b) w w' := by
  have hlk := hm.look (u := (u : Int)) (by constructor <;> omega)
  obtain ⟨wp, hup, hmp, hop⟩ := hm.put hn (u := (u : Int)) (x := x) (by constructor <;> omega) hx
  have HS := Lib.hid (⟨hmp, hop⟩ : _ ∧ _)
  have HM := Lib.hid (hm.mono (Nat.le_succ n))
  have hgu := hg u hu
  have hu0 : (0 : Int) ≤ (u : Int) := by omega
  have hu1 : (u : Int) < (gone.length : Int) := by omega
  have hgd : gone.getD u true = gone[u] := by rw [List.getD_eq_getElem?_getD, List.getElem?_eq_getElem hu]; rfl
  unfold updF
  rw [show ((u : Int)).toNat = u from rfl, hgd]
  clear hm hmp hop hg hgd hul hn hx
  generalize gone[u] = g at *
  by_cases e : u = v
  · subst e
    have e1 : ((u : Int) == (u : Int)) = true := by simp
    rw [show (decide ((u : Int) ≠ (u : Int)) && !g && lessO (m (u : Int)) x) = false by simp, if_neg (by simp)]
    go_enter Try.func58, Try.ntmps58
    go_wp2
    refine bodyPost_end (results_none rfl _ _ _) rfl ?_
    exact ⟨rfl, HM.out, .refl _ _⟩
  · have e1 : ((u : Int) != (v : Int)) = true := by rw [bne_iff_ne]; omega
    rw [show decide ((u : Int) ≠ (v : Int)) = true by rw [decide_eq_true_eq]; omega, Bool.true_and]
    clear e
    cases g with
    | true =>
      rw [show (!true && lessO (m (u : Int)) x) = false from rfl, if_neg (by simp)]
      go_enter Try.func58, Try.ntmps58
      go_wp2
      refine bodyPost_end (results_none rfl _ _ _) rfl ?_
      exact ⟨rfl, HM.out, .refl _ _⟩
    | false =>
      rw [show (!false && lessO (m (u : Int)) x) = lessO (m (u : Int)) x from rfl]
      cases hmu : m (u : Int) with
      | none =>
        rw [hmu] at hlk
        simp only [Option.getD, Option.isSome] at hlk
        rw [show lessO none x = true from rfl, if_pos rfl]
        clear hmu
        go_enter Try.func58, Try.ntmps58
        go_wp2
        refine bodyPost_end (results_none rfl _ _ _) rfl ?_
        exact ⟨rfl, HS.out.1, HS.out.2⟩
      | some y =>
        rw [hmu] at hlk
        simp only [Option.getD, Option.isSome] at hlk
        clear hmu
        by_cases hxy : x < y
        · have hxy2 : decide (x < y) = true := decide_eq_true hxy
          rw [show lessO (some y) x = true from hxy2, if_pos rfl]
          go_enter Try.func58, Try.ntmps58
          go_wp2
          refine bodyPost_end (results_none rfl _ _ _) rfl ?_
          exact ⟨rfl, HS.out.1, HS.out.2⟩
        · have hxy2 : decide (x < y) = false := decide_eq_false hxy
          rw [show lessO (some y) x = false from hxy2, if_neg (by simp)]
          go_enter Try.func58, Try.ntmps58
          go_wp2
          refine bodyPost_end (results_none rfl _ _ _) rfl ?_
          exact ⟨rfl, HM.out, .refl _ _⟩

theorem lrow_take (gone : List Bool) (v i : Int) (m : MM) (L : List (Int × Int)) (j : Nat) (h : j < L.length) : lrow gone v i m (L.take (j + 1)) = lstep gone v i (lrow gone v i m (L.take j)) L[j] := by
  unfold lrow
  rw [List.take_succ_eq_append_getElem h, List.foldl_append]
  rfl

/-- what lightest leaves -/
def LiPost (O : List (List (Int × Int))) (gone : List Bool) (v : Nat) (w : World) (e : Ending) (w' : World) : Prop :=
  ∃ bt bf, e = .returned (.tuple #[.map (some bt), .map (some bf)]) ∧ MapW w' bt 100000000000000000 (lrows O gone v O.length).1 ∧ MapW w' bf 100000000000000000 (lrows O gone v O.length).2 ∧ bt ≠ bf ∧ w.heap.size ≤ bt ∧ w.heap.size ≤ bf ∧ Below w.heap.size w w'

set_option maxRecDepth 100000 in
set_option maxHeartbeats 4000000 in
theorem lightest_any (O : List (List (Int × Int))) (gone : List Bool) (vo vg : Value) (v : Nat) (B : Int) (w : World) (hn : NetW w vo vg O gone) (hv : v < O.length) (hO : NetOK O gone B) (hB : B ≤ 1152921504606846976) (hlen : O.length ≤ 60000) (hrow : ∀ l ∈ O, l.length ≤ 1000000) :
    Calls Try.prog 41 #[.agg #[vo, vg], .int .i64 v] w (LiPost O gone v w) := by
  have HN := Lib.hid hn
  obtain ⟨ao, co, go, cg, rows, rfl, rfl, h3, h4, h5, h6⟩ := hn
  have hmm := @run_makeMap Try.prog
  have HGL := Lib.hid hO.len
  obtain ⟨gb, gof, e1, -⟩ := h5.at (i := v) (show v < gone.length by have := HGL.out; omega)
  subst e1
  obtain ⟨ob, oo, hao, -⟩ : ∃ ob oo, ao = some ⟨ob, oo, none⟩ ∧ True := by
    obtain ⟨ai, ci, k1, _⟩ := h6 v hv
    obtain ⟨ob, oo, rfl, _⟩ := h3 v _ k1
    exact ⟨ob, oo, rfl, trivial⟩
  subst hao
  clear h3 h4 h5 h6
  unfold LiPost
  go_enter Try.func41, Try.ntmps41
  go_upto_region 1 with (fail)
  obtain ⟨W, hW⟩ : ∃ W, W = (w.alloc (Obj.cells #[.slice (some ⟨ob, oo, none⟩) O.length co, .slice (some ⟨gb, gof, none⟩) gone.length cg] 66)).alloc (Obj.cells #[.int .i64 (v : Int)] 3) := ⟨_, rfl⟩
  have hbw : Below w.heap.size w W := by rw [hW]; exact (Below.of_al _ _).al _
  have HB := Lib.hid hbw
  have HNW := Lib.hid (HN.out.go hbw)
  have b0 : W.cell? ⟨w.heap.size, 0, none⟩ = some (.slice (some ⟨ob, oo, none⟩) O.length co) := by rw [hW]; go_simp
  have b1 : W.cell? ⟨w.heap.size, 1, none⟩ = some (.slice (some ⟨gb, gof, none⟩) gone.length cg) := by rw [hW]; go_simp
  have b2 : W.cell? ⟨w.heap.size + 1, 0, none⟩ = some (.int .i64 (v : Int)) := by rw [hW]; go_simp
  have HBX := Lib.hid (⟨b0, b1, b2⟩ : _ ∧ _ ∧ _)
  rw [← hW]
  clear hW hbw HN
  have HROW := Lib.hid (show ∀ u (hu : u < O.length), ∃ ai ci, W.cell? ⟨ob, oo + u, none⟩ = some (.slice ai O[u].length ci) ∧ Cel W ai (flatI O[u]) by
    obtain ⟨ao', co', go', cg', rows, e1, e2, h3, h4, h5, h6⟩ := HNW.out
    cases e1
    intro u hu
    obtain ⟨ai, ci, k1, k2⟩ := h6 u hu
    obtain ⟨b', o', e, k3⟩ := h3 u _ k1
    cases e
    exact ⟨ai, ci, k3, k2⟩)
  have HGO := Lib.hid (show ∀ k (hk : k < gone.length), W.cell? ⟨gb, gof + k, none⟩ = some (.bool gone[k]) by
    obtain ⟨ao', co', go', cg', rows, e1, e2, h3, h4, h5, h6⟩ := HNW.out
    cases e2
    intro k hk
    obtain ⟨b', o', e, k3⟩ := h5.at (i := k) hk
    cases e
    exact k3)
  have HM0 := Lib.hid (show MapW ((W.alloc (.map #[] 0)).alloc (.map #[] 0)) W.heap.size 0 (fun _ => none) from (MapW.new W).go (Below.of_al _ _))
  have HM1 := Lib.hid (show MapW ((W.alloc (.map #[] 0)).alloc (.map #[] 0)) (W.heap.size + 1) 0 (fun _ => none) from by
    have := MapW.new (W.alloc (.map #[] 0))
    rwa [show (W.alloc (.map #[] 0)).heap.size = W.heap.size + 1 by simp] at this)
  have HZ := Lib.hid (show Below W.heap.size W ((W.alloc (.map #[] 0)).alloc (.map #[] 0)) from (Below.of_al _ _).al _)
  have HLEN := Lib.hid hlen
  have HO := Lib.hid hO
  have f0 := fun o o' => cell_later ((Below.of_al W o).al o') b0
  clear HNW b1 b2 hO
  go_wp2
  go_loopg [17] O.length (fun gg v17 wr => ∃ i : Nat, i ≤ O.length ∧ O.length - i ≤ gg ∧ v17 = .int .i64 i ∧ Aside (MapW wr W.heap.size (i * 1000001) (lrows O gone v i).1) ∧ Aside (MapW wr (W.heap.size + 1) (i * 1000001) (lrows O gone v i).2) ∧ Aside (Below W.heap.size W wr))
  case atStart => exact ⟨0, Nat.zero_le _, by omega, rfl, HM0.out.mono (by omega), HM1.out.mono (by omega), HZ.out⟩
  case round =>
    clear HM0 HM1 HZ
    obtain ⟨i, hi, hg, rfl, HM, HF, HW⟩ := hrel
    have c0 := cell_later HW.out b0
    have c2 := cell_later HW.out HBX.out.2.2
    by_cases hlt : i < O.length
    · have hlt2 : (i : Int) < (O.length : Int) := by omega
      obtain ⟨ai, ci, r1, r2⟩ := HROW.out i hlt
      have q1 := cell_later HW.out r1
      have HCE := Lib.hid r2
      have HLR := Lib.hid (hrow O[i] (List.getElem_mem hlt))
      have HARC := Lib.hid (fun j (hj : j < O[i].length) => HO.out.arcs (i : Int) (O[i][j]) ⟨by omega, by omega⟩ (by unfold rowO; simp [hlt]))
      have HST := Lib.hid (show lrows O gone v (i + 1) = lrow gone v i (lrows O gone v i) O[i] by show lrow gone v i (lrows O gone v i) (O.getD i []) = _; rw [List.getD_eq_getElem?_getD, List.getElem?_eq_getElem hlt]; rfl)
      clear r1 r2
      generalize O[i] = L at *
      go_wp2
      go_loopg [24] L.length (fun g2 v24 wr2 => ∃ j : Nat, j ≤ L.length ∧ L.length - j ≤ g2 ∧ v24 = .int .i64 j ∧ Aside (MapW wr2 W.heap.size (i * 1000001 + j) (lrow gone v i (lrows O gone v i) (L.take j)).1) ∧ Aside (MapW wr2 (W.heap.size + 1) (i * 1000001 + j) (lrow gone v i (lrows O gone v i) (L.take j)).2) ∧ Aside (Below W.heap.size W wr2))
      case atStart => exact ⟨0, Nat.zero_le _, by omega, rfl, by rw [List.take_zero]; exact HM.out.mono (Nat.le_add_right _ _), by rw [List.take_zero]; exact HF.out.mono (Nat.le_add_right _ _), HW.out⟩
      case round =>
        clear q1 c0 c2 HM HF HW
        obtain ⟨j, hj, hjg, rfl, HM, HF, HW⟩ := hrel
        have c2 := cell_later HW.out HBX.out.2.2
        have d2 := fun o => cell_later (Below.of_al wr o) c2
        by_cases hjl : j < L.length
        · have hjl2 : (j : Int) < (L.length : Int) := by omega
          have hll : (L.length : Int) ≤ 1000000 := by have := HLR.out; omega
          obtain ⟨n1, n2, n3⟩ := HARC.out j hjl
          obtain ⟨x0, x1⟩ := flatI_get L j hjl
          rw [gI_in hjl] at x0 x1
          have HTK := Lib.hid (lrow_take gone v i (lrows O gone v i) L j hjl)
          obtain ⟨aib, aio, e, y0⟩ := HCE.out (j * 2) _ x0
          subst e
          obtain ⟨aib2, aio2, e, y1⟩ := HCE.out (j * 2 + 1) _ x1
          cases e
          have z0 := cell_later HW.out y0
          have z1 := cell_later HW.out y1
          rw [← Nat.add_assoc] at z1
          clear y0 y1 x0 x1
          generalize L[j] = q at *
          obtain ⟨a1, a2⟩ := q
          obtain ⟨a, rfl⟩ : ∃ a : Nat, a1 = (a : Int) := ⟨a1.toNat, by have := n1.1; simp only at this; omega⟩
          simp only at n1 n2 n3 z0 z1
          have haO : a < O.length := by have := n1.2; omega
          have HBA := Lib.hid (Below.of_al wr)
          have hau : (a : Int) < (gone.length : Int) := by have := HGL.out; omega
          have HN2 := Lib.hid (And.intro n2 n3)
          have HI := Lib.hid hi
          have HLT := Lib.hid hlt
          have HBD := Lib.hid (show i * 1000001 + j < 1000000000000000000 by have := HLEN.out; have := HLR.out; omega)
          have HCALL := Lib.hid (fun (u b : Nat) (m : Int → Option Int) (hu : u < O.length) (hm : MapW wr b (i * 1000001 + j) m) (o : Obj) => lightest1_any gone v u (w.heap.size + 1) w.heap.size gb gof cg b (i * 1000001 + j) a2 m (wr.alloc o) (cell_later (Below.of_al wr o) (cell_later HW.out HBX.out.2.2)) (cell_later (Below.of_al wr o) (cell_later HW.out HBX.out.2.1)) (fun k hk => cell_later (Below.of_al wr o) (cell_later HW.out (HGO.out k hk))) (by rw [HGL.out]; exact hu) (by have := HGL.out; have := HLEN.out; omega) (hm.go (Below.of_al wr o)) HBD.out (by have := HN2.out; omega))
          clear n1 n2 n3
          by_cases hvi : v = i
          · have hvi2 : ((v : Int) == (i : Int)) = true := by simp [hvi]
            have HVI := Lib.hid hvi
            clear hvi
            go_wp2_with (go_at_call 58; refine (HCALL.out a (W.heap.size + 1) _ haO HF.out _).mono ?_; rintro e w5 ⟨rfl, hm5, ho5⟩)
            have hs := HTK.out.trans (if_pos (congrArg (fun k : Nat => (k : Int)) HVI.out))
            have HWA := HW.out.al (Obj.cells #[Value.int IntKind.i64 (a : Int), Value.int IntKind.u64 a2] 103)
            go_roundg (L.length - (j + 1))
            case measure => omega
            case rel => exact ⟨j + 1, by omega, Nat.le_refl _, by go_num, by rw [hs]; exact ((HM.out.go (Below.of_al _ _)).off ho5 (by omega)).mono (by omega), by rw [hs]; exact hm5.mono (by omega), HWA.trans (ho5.below HWA.size (by rintro k rfl; omega))⟩
          · have hvi2 : ((v : Int) == (i : Int)) = false := by rw [beq_eq_false_iff_ne]; omega
            have hs1 := HTK.out.trans (if_neg (show ¬ (v : Int) = (i : Int) by omega))
            have HS1 := Lib.hid hs1
            clear hs1
            by_cases hva : v = a
            · have hva2 : ((v : Int) == (a : Int)) = true := by simp [hva]
              have HS2 := Lib.hid (HS1.out.trans (if_pos (congrArg (fun k : Nat => (k : Int)) hva)))
              clear hva hvi
              go_wp2_with (go_at_call 58; refine (HCALL.out i W.heap.size _ HLT.out HM.out _).mono ?_; rintro e w5 ⟨rfl, hm5, ho5⟩)
              have hs := HS2.out
              have HWA := HW.out.al (Obj.cells #[Value.int IntKind.i64 (a : Int), Value.int IntKind.u64 a2] 103)
              go_roundg (L.length - (j + 1))
              case measure => omega
              case rel => exact ⟨j + 1, by omega, Nat.le_refl _, by go_num, by rw [hs]; exact hm5.mono (by omega), by rw [hs]; exact ((HF.out.go (Below.of_al _ _)).off ho5 (by omega)).mono (by omega), HWA.trans (ho5.below HWA.size (by rintro k rfl; omega))⟩
            · have hva2 : ((v : Int) == (a : Int)) = false := by rw [beq_eq_false_iff_ne]; omega
              have HS2 := Lib.hid (HS1.out.trans (if_neg (show ¬ (v : Int) = (a : Int) by omega)))
              clear hva hvi
              go_wp2
              have hs := HS2.out
              go_roundg (L.length - (j + 1))
              case measure => omega
              case rel => exact ⟨j + 1, by omega, Nat.le_refl _, by go_num, by rw [hs]; exact (HM.out.go (Below.of_al _ _)).mono (by omega), by rw [hs]; exact (HF.out.go (Below.of_al _ _)).mono (by omega), HW.out.al _⟩
        · obtain rfl : j = L.length := by omega
          go_wp2
          go_roundg (O.length - (i + 1))
          case measure => omega
          case rel =>
            have hm := HM.out
            have hf := HF.out
            rw [List.take_length, ← HST.out] at hm hf
            exact ⟨i + 1, by omega, Nat.le_refl _, by go_num, hm.mono (by have := HLR.out; omega), hf.mono (by have := HLR.out; omega), HW.out⟩
    · obtain rfl : i = O.length := by omega
      go_wp2
      refine bodyPost_ret (v := .tuple #[.map (some W.heap.size), .map (some (W.heap.size + 1))]) (by simp [results, Try.results41, go_sem]; try rfl) rfl ?_
      exact ⟨_, _, rfl, HM.out.mono (by have := HLEN.out; omega), HF.out.mono (by have := HLEN.out; omega), by omega, HB.out.size, by have := HB.out.size; omega, HB.out.st HW.out⟩

end Go.Proofs.Ytkdomobedfhhgaa
end

section
namespace Go.Proofs.Ytkdomobedfhhgaa
open Go Go.Proofs Go.RowKit Go.Shelf

/-- append of a row of one-cell elements, which may be empty -/
theorem run_appAll {P : Program} {w : World} (t ty : TypeId) (base : Nat) (E : TypeId) (z : Value) (bytes : Nat) (hE : Elem P E z 1 bytes) (ht : P.underlying t = some (.slice E))
    (ao : Option Addr) (n cap : Nat) (xs : List Value) (hown : w.ownsRow base E 1 (.slice ao n cap) n xs) (bo : Option Addr) (m c : Nat) (news : List Value) (hnews : Cel w bo news) (h1 : ∀ u ∈ news, u.oneCell' = true)
    (hl : news.length = m ∧ n + m ≤ 9223372036854775807 ∧ (n + m) * bytes ≤ 140737488355328 ∧ base ≤ w.heap.size) :
    ∃ ao' cap' w', (Builtin.append_ #[t, t] ty #[.slice ao n cap, .slice bo m c]).run P w = .ok (.slice ao' (n + m) cap') w' ∧ w'.ownsRow base E 1 (.slice ao' (n + m) cap') (n + m) (xs ++ news) ∧ Below base w w' := by
  obtain ⟨hE, hz1, hz2⟩ := hE
  obtain ⟨i, hi, hz, hsz, hby⟩ := info_parts hE
  obtain ⟨l1, l2, l3, l5⟩ := hl
  by_cases hm : m = 0
  · subst hm
    have hn : news = [] := List.length_eq_zero_iff.1 l1
    subst hn
    refine ⟨ao, cap, w, ?_, by simpa using hown, Below.refl _ _⟩
    rcases hown.2 with ⟨e, rfl⟩ | ⟨g, cap', cur, e, _, _, hnc, _⟩
    · cases e
      cases bo <;> simp [Builtin.append_, run_underlying ht, sizeOf, typeInfo, hi, Builtin.lenOf, Builtin.firstCells, loadCells, loadCellsFrom, storeCells]
    · cases e
      cases bo <;> simp [Builtin.append_, run_underlying ht, sizeOf, typeInfo, hi, Builtin.lenOf, Builtin.firstCells, hnc, storeCells, loadCells, loadCellsFrom]
  · have hh : ∃ u, news[0]? = some u := ⟨_, List.getElem?_eq_getElem (by omega)⟩
    obtain ⟨u, hu⟩ := hh
    obtain ⟨b, o, rfl, _⟩ := hnews 0 u hu
    have hn2 : ∀ j u, news[j]? = some u → w.cell? ((⟨b, o, none⟩ : Addr).add j) = some u := fun j u hj => by
      obtain ⟨b', o', e, h⟩ := hnews j u hj
      cases e
      rw [Addr.add_lit]
      exact h
    obtain ⟨g, cap', w', hr, ho, hg, _, _⟩ := run_append_lies w t ty base E i z 1 bytes ht hi hz hsz hby hz1 hz2 (.slice ao n cap) n xs hown ⟨b, o, none⟩ m c news (by omega) hn2 h1 (by omega) (by unfold maxLen; omega) l3 l5 _ rfl
    exact ⟨_, cap', w', hr, ho, (Below.refl _ w).grown hg l5 (fun k hk => (hown.lt k hk).1)⟩

end Go.Proofs.Ytkdomobedfhhgaa
end
