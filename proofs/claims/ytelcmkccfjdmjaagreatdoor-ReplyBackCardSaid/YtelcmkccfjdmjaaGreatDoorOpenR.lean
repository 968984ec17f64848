/-
  How the arguments of a statement are opened: replies.
-/
import Derived.Test.YtelcmkccfjdmjaaGreatDoorOpen
import Derived.Test.YtelcmkccfjdmjaaGreatDoorRqA
import Derived.Deep.SlicePairs
import Derived.Deep.Strs
namespace Go.Proofs.YtelcmkccfjdmjaaGreatDoor
open Go.ChangeShapes Go.WideShapes Go.ChangeAt Go.RowKit Go.Deep

instance : Inhabited RtC := ⟨⟨none, 0, ⟨[], 0⟩⟩⟩

section
variable {H : Type} {enc : TypeId × Value → H} {P : Program} {w : World}

theorem array5 {α : Type} {cs : Array α} (h : cs.size = 5) : ∃ c0 c1 c2 c3 c4, cs = #[c0, c1, c2, c3, c4] := by
  obtain ⟨l⟩ := cs
  match l, h with
  | [c0, c1, c2, c3, c4], _ => exact ⟨c0, c1, c2, c3, c4, rfl⟩
theorem rd_words {t e : TypeId} {fuel : Nat} {v : Value} {x : DataW H × List MemPlace} (ht : P.underlying t = some (.slice e)) (he : P.underlying e = some .string) (ce : P.cellsOf e = 1)
    (h : DataW.trod enc P w 0 (fun _ => true) true fuel t [v] = some x) :
    ∃ (ao : Option Addr) (cap : Nat) (l : List ByteArray), v = .slice ao l.length cap ∧ Cel w ao (l.map encS) ∧ l.length ≤ 9223372036854775807 ∧ (∀ n ∈ l, n.size ≤ maxLen) := by
  rcases open_strs ht he ce h with ⟨hcs, hx⟩ | ⟨a, len, cap, m, Sx, hcs, _, hl, hm, hmm, hx, hcell⟩
  · simp at hcs
    subst hcs
    exact ⟨none, 0, [], rfl, Cel.nil _ _, by simp, by simp⟩
  · simp at hcs
    subst hcs
    have hmc : m = cap := by rw [hmm]; rfl
    have hes : ((List.range len).map Sx).length = len := by simp
    refine ⟨some a, cap, (List.range len).map Sx, by rw [hes], ?_, by rw [hes]; unfold maxLen at hm; omega, ?_⟩
    · intro i u hu
      have hlt : i < len := by
        have := (List.getElem?_eq_some_iff.1 hu).1
        simpa using this
      have hu' : u = .string (Sx i) := by
        simp [hlt] at hu
        exact hu.symm
      subst hu'
      have hcl := (hcell i (by omega)).1
      have h0 := (hcell 0 (by omega)).1
      obtain ⟨b, o, s⟩ := a
      cases s with
      | none => exact ⟨b, o, rfl, by rw [Addr.add_lit] at hcl; exact hcl⟩
      | some sp =>
        have : w.cell? ((⟨b, o, some sp⟩ : Addr).add 0) = none := by
          unfold World.cell? Addr.add
          rw [if_pos rfl]
          split <;> simp
        rw [this] at h0
        cases h0
    · intro y hy
      obtain ⟨i, hi, rfl⟩ := List.mem_map.1 hy
      exact (hcell i (by have := List.mem_range.1 hi; omega)).2

/-- what is known of a route in a row -/
def RtOk (w : World) (t : RtC) : Prop := Cel w t.ao (t.r.es.map encI) ∧ t.r.es.length ≤ 9223372036854775807 ∧ (∀ e ∈ t.r.es, (Lit.int .i64 e).wf = true) ∧ (Lit.int .u64 t.r.w).wf = true
theorem rd_routes {t e : TypeId} {f0 f1 : Field} {e0 : TypeId} {fuel : Nat} {v : Value} {x : DataW H × List MemPlace} (ht : P.underlying t = some (.slice e)) (he : P.underlying e = some (.struct #[f0, f1]))
    (hs : P.underlying f0.type = some (.slice e0)) (hi : P.underlying e0 = some (.int .i64)) (hu : P.underlying f1.type = some (.int .u64)) (ce : P.cellsOf e = 2) (ho : (f0.offset, f1.offset) = (0, 1)) (hcs : (P.cellsOf f0.type, P.cellsOf f1.type, P.cellsOf e0) = (1, 1, 1))
    (h : DataW.trod enc P w 0 (fun _ => true) true fuel t [v] = some x) :
    ∃ (ao : Option Addr) (cap : Nat) (ts : List RtC), v = .slice ao ts.length cap ∧ Cel w ao (flatR ts) ∧ ts.length ≤ 9223372036854775807 ∧ ∀ y ∈ ts, RtOk w y := by
  simp only [Prod.mk.injEq] at ho hcs
  obtain ⟨o0, o1⟩ := ho
  obtain ⟨c0, c1, c2⟩ := hcs
  rcases open_slice_pairs ht he ce o0 o1 c0 c1 h with ⟨hcs, _⟩ | ⟨a, len, cap, m, n, V0, V1, D0, D1, P0, P1, hcs, _, hl, hm, hmm, _, hx⟩
  · simp at hcs
    subst hcs
    exact ⟨none, 0, [], rfl, Cel.nil _ _, by simp, by simp⟩
  · simp at hcs
    subst hcs
    have hmc : m = cap := by rw [hmm]; rfl
    have each : ∀ i, i < len → ∃ y : RtC, w.cell? (a.add (i * 2)) = some (.slice y.ao y.r.es.length y.cap) ∧ w.cell? (a.add (i * 2 + 1)) = some (.int .u64 y.r.w) ∧ RtOk w y := by
      intro i hil
      obtain ⟨h0, h1, h2, h3⟩ := hx i (by omega)
      obtain ⟨ao, ca, l, e1, hc, hn, hw⟩ := rd_ints hs hi c2 h2
      obtain ⟨z, q, _, hz⟩ := DataW.trod_int hu h3
      simp at q
      rw [e1] at h0
      rw [q] at h1
      exact ⟨⟨ao, ca, ⟨l, z⟩⟩, h0, h1, hc, hn, hw, hz⟩
    obtain ⟨q, hq⟩ := choose_lt each
    have hes : ((List.range len).map q).length = len := by simp
    refine ⟨some a, cap, (List.range len).map q, by rw [hes], ?_, by rw [hes]; unfold maxLen at hm; omega, ?_⟩
    · intro i u hu
      have hlt : i < len * 2 := by
        have := (List.getElem?_eq_some_iff.1 hu).1
        rw [flatR_length, hes] at this
        exact this
      have hd : i / 2 < len := by omega
      obtain ⟨r0, r1, _⟩ := hq (i / 2) hd
      obtain ⟨s0, s1⟩ := flatR_at ((List.range len).map q) (i / 2) (by simpa using hd)
      simp only [List.getElem_map, List.getElem_range] at s0 s1
      have hcl : w.cell? (a.add i) = some u := by
        have hm3 : i = i / 2 * 2 ∨ i = i / 2 * 2 + 1 := by omega
        rcases hm3 with e | e
        · rw [e] at hu ⊢
          rw [Nat.mul_comm, s0] at hu
          cases hu
          exact r0
        · rw [e] at hu ⊢
          rw [Nat.mul_comm, s1] at hu
          cases hu
          exact r1
      have h0 := (hq 0 (by omega)).1
      obtain ⟨b, o, s⟩ := a
      cases s with
      | none => exact ⟨b, o, rfl, by rw [Addr.add_lit] at hcl; exact hcl⟩
      | some sp =>
        have : w.cell? ((⟨b, o, some sp⟩ : Addr).add (0 * 2)) = none := by
          unfold World.cell? Addr.add
          rw [if_pos rfl]
          split <;> simp
        rw [this] at h0
        cases h0
    · intro y hy
      obtain ⟨i, hi, rfl⟩ := List.mem_map.1 hy
      exact (hq i (by simpa using hi)).2.2

theorem rd_reply {r : Reach} {b0 : Nat} {t er : TypeId} {f0 f1 f2 f3 f4 g0 g1 : Field} {en e0 ew : TypeId} {v : Value} {d : DataW H} {p : List MemPlace} (hs : P.underlying t = some (.struct #[f0, f1, f2, f3, f4])) (hone : oneCellFields P #[f0, f1, f2, f3, f4] = true) (hC : P.cellsOf t = 5)
    (u0 : P.underlying f0.type = some (.int .i64)) (u1 : P.underlying f1.type = some .string) (u2 : P.underlying f2.type = some (.slice en)) (u3 : P.underlying f3.type = some (.slice er)) (u4 : P.underlying f4.type = some (.slice ew))
    (un : P.underlying en = some (.int .u64)) (uw : P.underlying ew = some .string) (ur : P.underlying er = some (.struct #[g0, g1])) (ue : P.underlying g0.type = some (.slice e0)) (ui : P.underlying e0 = some (.int .i64)) (uu : P.underlying g1.type = some (.int .u64))
    (hcs : (P.cellsOf en, P.cellsOf ew, P.cellsOf er, g0.offset, g1.offset) = (1, 1, 2, 0, 1)) (hcs2 : (P.cellsOf g0.type, P.cellsOf g1.type, P.cellsOf e0) = (1, 1, 1))
    (hv : Value.okWide P w r b0 t v) (h : DataW.Trod enc P w 0 (fun _ => true) true t v d p) :
    ∃ x : RepD, RepV w x v ∧ TyR x := by
  obtain ⟨cs, rfl, hsz⟩ := okWide_struct hs hv
  obtain ⟨c0, c1, c2, c3, c4, rfl⟩ := array5 (hsz.trans hC)
  obtain ⟨fuel, hf⟩ := h
  obtain ⟨xs, n, _, _, _, hlen, hfs⟩ := DataW.trod_struct hs hf
  match xs, hlen, hfs with
  | [y0, y1, y2, y3, y4], _, hfs =>
    obtain ⟨o0, k0⟩ := hone_of hone 0 f0 rfl
    obtain ⟨o1, k1⟩ := hone_of hone 1 f1 rfl
    obtain ⟨o2, k2⟩ := hone_of hone 2 f2 rfl
    obtain ⟨o3, k3⟩ := hone_of hone 3 f3 rfl
    obtain ⟨o4, k4⟩ := hone_of hone 4 f4 rfl
    have h0 : DataW.trod enc P w 0 (fun _ => true) true n f0.type [c0] = some y0 := by simpa [Value.cells, o0, k0] using hfs 0 f0 rfl
    have h1 : DataW.trod enc P w 0 (fun _ => true) true n f1.type [c1] = some y1 := by simpa [Value.cells, o1, k1] using hfs 1 f1 rfl
    have h2 : DataW.trod enc P w 0 (fun _ => true) true n f2.type [c2] = some y2 := by simpa [Value.cells, o2, k2] using hfs 2 f2 rfl
    have h3 : DataW.trod enc P w 0 (fun _ => true) true n f3.type [c3] = some y3 := by simpa [Value.cells, o3, k3] using hfs 3 f3 rfl
    have h4 : DataW.trod enc P w 0 (fun _ => true) true n f4.type [c4] = some y4 := by simpa [Value.cells, o4, k4] using hfs 4 f4 rfl
    simp only [Prod.mk.injEq] at hcs
    obtain ⟨q1, q2, q3, q4, q5⟩ := hcs
    obtain ⟨f, e0, _, wf⟩ := DataW.trod_int u0 h0
    obtain ⟨name, e1, _, z1⟩ := DataW.trod_string u1 h1
    obtain ⟨an, cn, ln, rfl, hcn, hzn, hwn⟩ := rd_ints u2 un q1 h2
    obtain ⟨ar, cr, ts, rfl, hcr, hzr, hwr⟩ := rd_routes u3 ur ue ui uu q3 (by rw [q4, q5]) hcs2 h3
    obtain ⟨aw, cw, lw, rfl, hcw, hzw, hww⟩ := rd_words u4 uw q2 h4
    simp at e0 e1
    subst e0 e1
    refine ⟨⟨f, name, ln, ts.map (·.r), lw⟩, ⟨an, cn, ar, cr, aw, cw, ts, by simp, hcn, hcr, hcw, rfl, fun t ht => (hwr t ht).1⟩, ⟨by unfold maxLen at z1; simpa using z1, hzn, by simpa using hzr, hzw, fun x hx => by have := hww x hx; unfold maxLen at this; simpa using this, fun m hm => by have := wf_u64 (hwn m hm); omega, ?_⟩⟩
    intro x hx
    obtain ⟨t, ht, rfl⟩ := List.mem_map.1 hx
    obtain ⟨_, r2, r3, r4⟩ := hwr t ht
    exact ⟨r2, by have := wf_u64 r4; omega, fun e he => wf_i64 (r3 e he)⟩
end
end Go.Proofs.YtelcmkccfjdmjaaGreatDoor
