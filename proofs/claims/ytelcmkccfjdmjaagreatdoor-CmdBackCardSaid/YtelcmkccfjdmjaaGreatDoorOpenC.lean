/-
  How the arguments of a statement are opened: commands.
-/
import Derived.Test.YtelcmkccfjdmjaaGreatDoorOpen
import Derived.Test.YtelcmkccfjdmjaaGreatDoorOpenGD
import Derived.Test.YtelcmkccfjdmjaaGreatDoorCnD
import Derived.Deep.Strs
namespace Go.Proofs.YtelcmkccfjdmjaaGreatDoor
open Go.ChangeShapes Go.WideShapes Go.ChangeAt Go.RowKit Go.Deep

section
variable {H : Type} {enc : TypeId × Value → H} {P : Program} {w : World}

theorem flatP_len : ∀ l : List (Int × Int), (flatP l).length = l.length * 2
  | [] => rfl
  | p :: l => by rw [flatP]; simp [flatP_len l]; omega
theorem flatP_get : ∀ (l : List (Int × Int)) (k : Nat) (hk : k < l.length), (flatP l)[k * 2]? = some (.int .u64 l[k].1) ∧ (flatP l)[k * 2 + 1]? = some (.int .u64 l[k].2)
  | p :: l, 0, _ => ⟨rfl, rfl⟩
  | p :: l, k + 1, hk => by
    have := flatP_get l k (by simpa using hk)
    rw [show (k + 1) * 2 = k * 2 + 2 by omega]
    exact this
theorem rd_rats {t e : TypeId} {f0 f1 : Field} {fuel : Nat} {v : Value} {x : DataW H × List MemPlace} (ht : P.underlying t = some (.slice e)) (he : P.underlying e = some (.struct #[f0, f1]))
    (hu : P.underlying f0.type = some (.int .u64)) (ce : P.cellsOf e = 2) (ho : (f0.offset, f1.offset, f1.type) = (0, 1, f0.type)) (hcs : P.cellsOf f0.type = 1)
    (h : DataW.trod enc P w 0 (fun _ => true) true fuel t [v] = some x) :
    ∃ (ao : Option Addr) (cap : Nat) (es : List (Int × Int)), v = .slice ao es.length cap ∧ Cel w ao (flatP es) ∧ es.length ≤ 9223372036854775807 ∧ ∀ y ∈ es, (Lit.int .u64 y.1).wf = true ∧ (Lit.int .u64 y.2).wf = true := by
  simp only [Prod.mk.injEq] at ho
  obtain ⟨o0, o1, t1⟩ := ho
  rcases open_slice ht h with ⟨hcs, _⟩ | ⟨a, len, cap, m, n, D, Pl, hcs2, _, hl, hm, hmm, _, hx⟩
  · simp at hcs
    subst hcs
    exact ⟨none, 0, [], rfl, Cel.nil _ _, by simp, by simp⟩
  · simp at hcs2
    subst hcs2
    have hmc : m = cap := by rw [hmm]; rfl
    have each : ∀ i, i < len → ∃ y : Int × Int, w.cell? (a.add (i * 2)) = some (.int .u64 y.1) ∧ w.cell? (a.add (i * 2 + 1)) = some (.int .u64 y.2) ∧ (Lit.int .u64 y.1).wf = true ∧ (Lit.int .u64 y.2).wf = true := by
      intro i hil
      obtain ⟨cs', h1, h2⟩ := hx i (by omega)
      rw [ce] at h1
      obtain ⟨_, hlen, hcell⟩ := World.cells?_some h1
      obtain ⟨xs, k, hk, hxy, _, hxl, hf⟩ := DataW.trod_struct he h2
      match xs, hxl, cs', hlen, hf, hcell with
      | [y0, y1], _, [v0, v1], _, hf, hcell =>
        have g0 := hf 0 f0 rfl
        have g1 := hf 1 f1 rfl
        simp [o0, o1, hcs, t1] at g0 g1
        have e0 := hcell 0 (by omega)
        have e1 := hcell 1 (by omega)
        rw [add_add] at e0 e1
        simp at e0 e1
        obtain ⟨a0, q0, _, w0⟩ := DataW.trod_int hu g0
        obtain ⟨a1, q1, _, w1⟩ := DataW.trod_int hu g1
        simp at q0 q1
        subst q0 q1
        exact ⟨(a0, a1), e0, e1, w0, w1⟩
    obtain ⟨q, hq⟩ := choose_lt each
    have hes : ((List.range len).map q).length = len := by simp
    refine ⟨some a, cap, (List.range len).map q, by rw [hes], ?_, by rw [hes]; unfold maxLen at hm; omega, ?_⟩
    · intro i u hu
      have hlt : i < len * 2 := by
        have := (List.getElem?_eq_some_iff.1 hu).1
        rw [flatP_len, hes] at this
        exact this
      have hd : i / 2 < len := by omega
      obtain ⟨r0, r1, _, _⟩ := hq (i / 2) hd
      obtain ⟨s0, s1⟩ := flatP_get ((List.range len).map q) (i / 2) (by simpa using hd)
      simp only [List.getElem_map, List.getElem_range] at s0 s1
      have hcl : w.cell? (a.add i) = some u := by
        have hm3 : i = i / 2 * 2 ∨ i = i / 2 * 2 + 1 := by omega
        rcases hm3 with e | e
        · rw [e] at hu ⊢
          rw [s0] at hu
          cases hu
          exact r0
        · rw [e] at hu ⊢
          rw [s1] at hu
          cases hu
          exact r1
      have h0 := (hq 0 (by omega)).1
      obtain ⟨b, o, s⟩ := a
      cases s with
      | none => exact ⟨b, o, rfl, by rw [Addr.add_lit] at hcl; exact hcl⟩
      | some sp =>
        have : w.cell? ((⟨b, o, some sp⟩ : Addr).add (0 * 2)) = none := by
          unfold World.cell? Addr.add
          rw [if_pos rfl]
          split <;> simp
        rw [this] at h0
        cases h0
    · intro y hy
      obtain ⟨i, hi, rfl⟩ := List.mem_map.1 hy
      exact (hq i (by simpa using hi)).2.2

theorem rd_cmd {r : Reach} {b0 : Nat} {t ti eq eE : TypeId} {f0 f1 f2 f3 f4 f5 q0 q1 g0 g1 e0 e1 e2 : Field} {v : Value} {d : DataW H} {p : List MemPlace} (hs : P.underlying t = some (.struct #[f0, f1, f2, f3, f4, f5])) (hC : P.cellsOf t = 7)
    (hoff : (f0.offset, f1.offset, f2.offset, f3.offset, f4.offset, f5.offset) = (0, 1, 2, 3, 4, 6)) (hcell : (P.cellsOf f0.type, P.cellsOf f1.type, P.cellsOf f2.type, P.cellsOf f3.type, P.cellsOf f4.type, P.cellsOf f5.type) = (1, 1, 1, 1, 2, 1))
    (u0 : P.underlying f0.type = some .string) (u1 : P.underlying f1.type = some (.slice ti)) (u2 : P.underlying f2.type = some (.int .u64)) (u3 : P.underlying f3.type = some (.slice eq)) (u4 : P.underlying f4.type = some (.struct #[g0, g1])) (u5 : P.underlying f5.type = some (.slice ti))
    (ui : P.underlying ti = some (.int .i64)) (ci : P.cellsOf ti = 1) (uq : P.underlying eq = some (.struct #[q0, q1])) (uu : P.underlying q0.type = some (.int .u64)) (cq : P.cellsOf eq = 2) (oq : (q0.offset, q1.offset, q1.type) = (0, 1, q0.type)) (cq0 : P.cellsOf q0.type = 1)
    (ug0 : P.underlying g0.type = some (.int .i64)) (ug1 : P.underlying g1.type = some (.slice eE)) (og : (g0.offset, g1.offset, P.cellsOf g0.type, P.cellsOf g1.type) = (0, 1, 1, 1))
    (uE : P.underlying eE = some (.struct #[e0, e1, e2])) (hi : P.underlying e0.type = some (.int .i64)) (hu : P.underlying e2.type = some (.int .u64)) (cE : P.cellsOf eE = 3) (oE : (e0.offset, e1.offset, e2.offset, e1.type) = (0, 1, 2, e0.type)) (cE2 : (P.cellsOf e0.type, P.cellsOf e2.type) = (1, 1))
    (hv : Value.okWide P w r b0 t v) (h : DataW.Trod enc P w 0 (fun _ => true) true t v d p) :
    ∃ (x : CmD) (cs : List Value), v = .agg cs.toArray ∧ CmV w x cs ∧ TyC x := by
  obtain ⟨cs, rfl, hsz⟩ := okWide_struct hs hv
  obtain ⟨l⟩ := cs
  have hl7 : l.length = 7 := by simpa using hsz.trans hC
  simp only [Prod.mk.injEq] at hoff hcell og
  obtain ⟨o0, o1, o2, o3, o4, o5⟩ := hoff
  obtain ⟨k0, k1, k2, k3, k4, k5⟩ := hcell
  obtain ⟨og0, og1, cg0, cg1⟩ := og
  match l, hl7 with
  | [c0, c1, c2, c3, c4, c5, c6], _ =>
    obtain ⟨fuel, hf⟩ := h
    obtain ⟨xs, n, _, _, _, hlen, hfs⟩ := DataW.trod_struct hs hf
    match xs, hlen, hfs with
    | [y0, y1, y2, y3, y4, y5], _, hfs =>
      have h0 : DataW.trod enc P w 0 (fun _ => true) true n f0.type [c0] = some y0 := by simpa [Value.cells, o0, k0] using hfs 0 f0 rfl
      have h1 : DataW.trod enc P w 0 (fun _ => true) true n f1.type [c1] = some y1 := by simpa [Value.cells, o1, k1] using hfs 1 f1 rfl
      have h2 : DataW.trod enc P w 0 (fun _ => true) true n f2.type [c2] = some y2 := by simpa [Value.cells, o2, k2] using hfs 2 f2 rfl
      have h3 : DataW.trod enc P w 0 (fun _ => true) true n f3.type [c3] = some y3 := by simpa [Value.cells, o3, k3] using hfs 3 f3 rfl
      have h4 : DataW.trod enc P w 0 (fun _ => true) true n f4.type [c4, c5] = some y4 := by simpa [Value.cells, o4, k4] using hfs 4 f4 rfl
      have h5 : DataW.trod enc P w 0 (fun _ => true) true n f5.type [c6] = some y5 := by simpa [Value.cells, o5, k5] using hfs 5 f5 rfl
      obtain ⟨z0, z1, n2, _, _, hg0, hg1⟩ := trod_struct2 u4 h4
      have hg0 : DataW.trod enc P w 0 (fun _ => true) true n2 g0.type [c4] = some z0 := by simpa [og0, cg0] using hg0
      have hg1 : DataW.trod enc P w 0 (fun _ => true) true n2 g1.type [c5] = some z1 := by simpa [og1, cg1] using hg1
      obtain ⟨name, b0, _, zn⟩ := DataW.trod_string u0 h0
      obtain ⟨ai, ca, li, rfl, hci, hzi, hwi⟩ := rd_ints u1 ui ci h1
      obtain ⟨wv, b2, _, ww⟩ := DataW.trod_int u2 h2
      obtain ⟨aq, cq', lq, rfl, hcq, hzq, hwq⟩ := rd_rats u3 uq uu cq oq cq0 h3
      obtain ⟨gn, b4, _, wg⟩ := DataW.trod_int ug0 hg0
      obtain ⟨ag, cg', lg, rfl, hcg, hzg, hwg⟩ := rd_edges ug1 uE hi hu cE oE cE2 hg1
      obtain ⟨ak, ck, lk, rfl, hck, hzk, hwk⟩ := rd_ints u5 ui ci h5
      simp at b0 b2 b4
      subst b0 b2 b4
      refine ⟨⟨name, li, wv, lq, gn, lg, lk⟩, _, rfl, ⟨ai, ca, aq, cq', ag, cg', ak, ck, rfl, hci, hcq, hcg, hck⟩, ⟨⟨hzi, hzq, hzg, hzk⟩, fun n hn => wf_i64 (hwi n hn), ?_, by have := wf_u64 ww; show 0 ≤ wv ∧ wv < _; omega⟩⟩
      intro q hq
      obtain ⟨a, b⟩ := hwq q hq
      have := wf_u64 a
      have := wf_u64 b
      omega
end
end Go.Proofs.YtelcmkccfjdmjaaGreatDoor
