/-
  Walk of package query: Meet; what must come at any rate.
  What must come at any rate, for the laws of query.
-/
import Derived.Test.YtkdomobedfhhgaaProg
import Derived.Test.YtkdomobedfhhgaaQt49
set_option linter.unusedVariables false
set_option linter.unusedSimpArgs false
set_option linter.unnecessarySimpa false
section
namespace Go.Proofs.Ytkdomobedfhhgaa
open Go Go.Proofs Go.RowKit Go.Shelf Go.Proofs.Ytkdomobedfhhgaa.Hp Go.Proofs.Ytkdomobedfhhgaa.Ch

/-- both ends meet at some peak -/
theorem peaks_some {es : List EdgeD} {n : Nat} {R : List Int} {S : List SC} {ro : List Int} {s t : Nat} {d : Int} {la lb : List LB} (hok : HierOK es n R S ro) (ha : Space (relB false (arcG es)) (XN S false) (rk ro) (s : Int) (la.map labOf)) (hb : Space (relB true (arcG es)) (XN S true) (rk ro) (t : Int) (lb.map labOf)) (hd : DistIs n (arcG es) s t d 0) :
    ∃ v rest, peaksL (byF lb) d la = v :: rest := by
  have hpw : lb.Pairwise (fun a b => a.v ≠ b.v) := by
    have h9 := hb.once
    rw [List.pairwise_map] at h9
    exact h9
  rcases hd with ⟨_, _, _, hd, _⟩ | ⟨h, _⟩ | ⟨h, _⟩
  · obtain ⟨a, ha1, b, hb1, e1, e2⟩ := (Space.both (A := arcG es) (X := XN S false) (Y := XN S true) (hok.hierB false) ha hb).2 d hd
    obtain ⟨x, hx, rfl⟩ := List.mem_map.1 ha1
    obtain ⟨z, hz, rfl⟩ := List.mem_map.1 hb1
    have hm : x.v ∈ peaksL (byF lb) d la := by
      refine List.mem_map.2 ⟨x, List.mem_filter.2 ⟨hx, ?_⟩, rfl⟩
      unfold peakB
      rw [(byF_spec lb hpw x.v z.d).2 ⟨z, hz, e1.symm, rfl⟩]
      exact decide_eq_true e2
    cases hp : peaksL (byF lb) d la with
    | nil => rw [hp] at hm; cases hm
    | cons v rest => exact ⟨v, rest, rfl⟩
  · cases h
  · cases h
def MeetPost (n : Nat) (es : List EdgeD) (S : List SC) (ro : List Int) (s t : Int) (w : World) (e : Ending) (w' : World) : Prop :=
  (∃ v d k : Int, e = .returned (.tuple #[.int .i64 v, .int .u64 d, .int .i64 k]) ∧ ((k ≠ 0 ∧ v = -1 ∧ d = 0 ∧ DistIs n (arcG es) s t 0 k) ∨
    (k = 0 ∧ DistIs n (arcG es) s t d 0 ∧ ∃ (x y : Nat) (la lb : List LB) (rest : List Int), s = x ∧ t = y ∧ x < n ∧ y < n ∧ Space (relB false (arcG es)) (XN S false) (rk ro) (x : Int) (la.map labOf) ∧ Space (relB true (arcG es)) (XN S true) (rk ro) (y : Int) (lb.map labOf) ∧ la.Pairwise (fun a b => a.v ≤ b.v) ∧ peaksL (byF lb) d la = v :: rest))) ∧ Below w.heap.size w w'
theorem MeetPost.bad {n : Nat} {es : List EdgeD} {S : List SC} {ro : List Int} {s t k : Int} {w w' : World} (hk : k ≠ 0) (h : DistIs n (arcG es) s t 0 k) (hb : Below w.heap.size w w') : MeetPost n es S ro s t w (.returned (.tuple #[.int .i64 (-1), .int .u64 0, .int .i64 k])) w' :=
  ⟨⟨-1, 0, k, rfl, .inl ⟨hk, rfl, rfl, h⟩⟩, hb⟩
set_option maxRecDepth 100000 in
set_option maxHeartbeats 1000000 in
theorem meet_any (hb n : Nat) (es : List EdgeD) (R : List Int) (S : List SC) (ro : List Int) (s t : Int) (w : World) (h : BH w hb n es R S ro) :
    Calls Try.prog 9 #[.pointer (some ⟨hb, 0, none⟩), .int .i64 s, .int .i64 t] w (MeetPost n es S ro s t w) := by
  have HP := Lib.hid (peaks_any hb n es R S ro s t w h)
  have HD := Lib.hid (fun W (hz : Below w.heap.size w W) => dist_any hb n es R S ro s t W (h.go hz))
  have HOK := Lib.hid h.ok
  unfold PeaksPost at HP
  unfold DistPost at HD
  clear h
  go_enter Try.func9, Try.ntmps9
  go_upto_if 21 with (go_at_call 15; refine HP.out.mono ?_; rintro e w1 ⟨⟨ao, ca, l, k, rfl, h1, h2⟩, hb1⟩; (have HB1 := Lib.hid hb1); clear hb1)
  rcases h2 with ⟨hk, rfl, hd⟩ | ⟨rfl, x, y, d, la, lb, hs, ht, hx, hy, hsa, hsb, hso, hd, rfl⟩
  · have hk2 : (k != 0) = true := by simpa using hk
    have HK := Lib.hid hk
    have HDD := Lib.hid hd
    clear hk hd h1
    go_wp2
    refine bodyPost_ret (v := .tuple #[.int .i64 (-1), .int .u64 0, .int .i64 k]) (by simp [results, Try.results9, go_sem]; try rfl) rfl ?_
    exact .bad HK.out HDD.out HB1.out
  · obtain ⟨v, rest, hpe⟩ := peaks_some HOK.out hsa hsb (by rw [← hs, ← ht]; exact hd)
    have HDD := Lib.hid hd
    have HX := Lib.hid (And.intro hs (And.intro ht (And.intro hx (And.intro hy (And.intro hsa (And.intro hsb (And.intro hso hpe)))))))
    rw [hpe] at h1
    obtain ⟨pb, po, rfl, y0⟩ := h1.at (i := 0) (by simp)
    have hl0 : (0 : Int) < ((v :: rest).length : Int) := by simp
    have hpl : (peaksL (byF lb) d la).length = (v :: rest).length := by rw [hpe]
    rw [hpl]
    generalize hr : (v :: rest).length = rl at *
    have y0' : w1.cell? ⟨pb, po, none⟩ = some (.int .i64 v) := y0
    clear hs ht hx hy hsa hsb hso hd hpe h1 hpl hr y0
    go_wp2_with (go_at_call 7; refine (HD.out _ HB1.out).mono ?_; rintro e w2 ⟨⟨d2, k2, rfl, hd2⟩, hb2⟩; (have HD2 := Lib.hid hd2); (have HB2 := Lib.hid hb2); (have y02 := cell_later hb2 y0'); clear hd2 hb2)
    refine bodyPost_ret (v := .tuple #[.int .i64 v, .int .u64 d2, .int .i64 0]) (by simp [results, Try.results9, go_sem]; try rfl) rfl ?_
    obtain ⟨e1, e2⟩ := HD2.out.uniq HDD.out
    subst e1
    obtain ⟨h1, h2, h3, h4, h5, h6, h7, h8⟩ := HX.out
    exact ⟨⟨v, d2, 0, rfl, .inr ⟨rfl, HDD.out, x, y, la, lb, rest, h1, h2, h3, h4, h5, h6, h7, h8⟩⟩, HB1.out.st HB2.out⟩
end Go.Proofs.Ytkdomobedfhhgaa
end

section
namespace Go.Proofs.Ytkdomobedfhhgaa
open Go Go.Proofs Go.RowKit Go.Shelf Go.Proofs.Ytkdomobedfhhgaa.Hp Go.Proofs.Ytkdomobedfhhgaa.Ch

theorem cel_lit3 (W : World) (x y z : Value) (T : TypeId) : Cel (W.alloc (Obj.cells #[x, y, z] T)) (some ⟨W.heap.size, 0, none⟩) [x, y, z] := by
  intro j u hj
  have h := cells3_new W x y z T j u hj
  rw [Addr.add_lit] at h
  exact ⟨_, _, rfl, h⟩
abbrev exE : List EdgeD := [⟨0, 1, 3⟩]
theorem ex_arc {u v w : Int} : arcG exE u v w ↔ u = 0 ∧ v = 1 ∧ w = 3 := by
  unfold arcG exE
  constructor
  · rintro ⟨x, hx, h1, h2, h3⟩
    rw [List.mem_singleton] at hx
    subst hx
    exact ⟨h1.symm, h2.symm, h3.symm⟩
  · rintro ⟨rfl, rfl, rfl⟩
    exact ⟨_, List.mem_singleton.2 rfl, rfl, rfl, rfl⟩
theorem ex_pos : ∀ u v w, arcG exE u v w → 1 ≤ w := by
  intro u v w h
  obtain ⟨_, _, rfl⟩ := ex_arc.1 h
  decide
theorem ex_way {p : Int → Prop} {u v d : Int} (h : Ch.Way (arcG exE) p u v d) : u = 0 ∧ v = 1 ∧ d = 3 := by
  induction h with
  | one h => exact ex_arc.1 h
  | cons h1 _ _ ih =>
    obtain ⟨_, h2, _⟩ := ex_arc.1 h1
    obtain ⟨h3, _⟩ := ih
    rw [h2] at h3
    cases h3
theorem ex_dist {d k : Int} (h : DistIs 2 (arcG exE) 0 1 d k) : d = 3 ∧ k = 0 := by
  have hw : Way0 (arcG exE) Any 0 1 3 := .inr (.one (ex_arc.2 ⟨rfl, rfl, rfl⟩))
  rcases h with ⟨hk, _, _, h, _⟩ | ⟨_, _, _, _, h⟩ | ⟨_, _, h⟩
  · refine ⟨?_, hk⟩
    rcases h.1 with ⟨e, _⟩ | h
    · cases e
    · exact (ex_way h).2.2
  · exact absurd hw (h _)
  · exact absurd ⟨⟨by decide, by decide⟩, ⟨by decide, by decide⟩⟩ h
theorem ex_self {d k : Int} (h : DistIs 2 (arcG exE) 1 1 d k) : d = 0 ∧ k = 0 := by
  have hw := Dist.self (A := arcG exE) ex_pos 1
  rcases h with ⟨hk, _, _, h, _⟩ | ⟨_, _, _, _, h⟩ | ⟨_, _, h⟩
  · exact ⟨h.uniq hw, hk⟩
  · exact absurd hw.1 (h _)
  · exact absurd ⟨⟨by decide, by decide⟩, ⟨by decide, by decide⟩⟩ h
/-- a peak that is no way off is the node itself -/
theorem ex_peak {S : List SC} {R : List Int} {ro : List Int} {la lb : List LB} {v : Int} {rest : List Int} (hok : HierOK exE 2 R S ro) (ha : Space (relB false (arcG exE)) (XN S false) (rk ro) ((1 : Nat) : Int) (la.map labOf)) (hb : Space (relB true (arcG exE)) (XN S true) (rk ro) ((1 : Nat) : Int) (lb.map labOf)) (h : peaksL (byF lb) 0 la = v :: rest) : v = 1 := by
  have hm : v ∈ peaksL (byF lb) 0 la := by rw [h]; exact List.mem_cons_self ..
  obtain ⟨x, hx, rfl⟩ := List.mem_map.1 hm
  have hx2 := List.mem_filter.1 hx
  have hw := ha.sound (labOf x) (List.mem_map.2 ⟨x, hx2.1, rfl⟩)
  have hl := labsOK hok ha (by decide) (by decide) x hx2.1
  have hp := hx2.2
  unfold peakB at hp
  cases hf : byF lb x.v with
  | none => rw [hf] at hp; cases hp
  | some y =>
    rw [hf] at hp
    have e := of_decide_eq_true hp
    have hpw : lb.Pairwise (fun a b => a.v ≠ b.v) := by
      have h9 := hb.once
      rw [List.pairwise_map] at h9
      exact h9
    obtain ⟨z, hz, _, rfl⟩ := (byF_spec lb hpw _ _).1 hf
    have hlb := labsOK hok hb (by decide) (by decide) z hz
    rcases hw with ⟨e1, _⟩ | hw
    · exact e1.symm
    · have h3 := (ex_way hw).1
      cases h3
theorem ex_meet {S : List SC} {R : List Int} {ro : List Int} {v d k : Int} (hok : HierOK exE 2 R S ro) (h : (k ≠ 0 ∧ v = -1 ∧ d = 0 ∧ DistIs 2 (arcG exE) 1 1 0 k) ∨
    (k = 0 ∧ DistIs 2 (arcG exE) 1 1 d 0 ∧ ∃ (x y : Nat) (la lb : List LB) (rest : List Int), (1 : Int) = x ∧ (1 : Int) = y ∧ x < 2 ∧ y < 2 ∧ Space (relB false (arcG exE)) (XN S false) (rk ro) (x : Int) (la.map labOf) ∧ Space (relB true (arcG exE)) (XN S true) (rk ro) (y : Int) (lb.map labOf) ∧ la.Pairwise (fun a b => a.v ≤ b.v) ∧ peaksL (byF lb) d la = v :: rest)) : v = 1 ∧ d = 0 ∧ k = 0 := by
  rcases h with ⟨hk, _, _, h⟩ | ⟨hk, hd, x, y, la, lb, rest, hx, hy, _, _, ha, hb, _, hp⟩
  · exact absurd (ex_self h).2 hk
  · obtain rfl := (ex_self hd).1
    obtain rfl : x = 1 := by omega
    obtain rfl : y = 1 := by omega
    exact ⟨ex_peak hok ha hb hp, rfl, hk⟩
/-- what was built of a right graph that is small -/
theorem BltPost.good {g : GD} {k : Int} {w w' : World} {e : Ending} (h : BltPost g k w e w') (hk : k = 0) (hg : rightG g = 0) (hn : g.n ≤ 12) : ∃ hb R S ro, e = .returned (.tuple #[.pointer (some ⟨hb, 0, none⟩), .int .i64 0]) ∧ BH w' hb g.n.toNat g.es R S ro ∧ Below w.heap.size w w' := by
  obtain ⟨h1 | h1, h2⟩ := h
  · obtain ⟨_, hb, R, S, ro, e, hm, ho⟩ := h1
    have := right_n hg
    exact ⟨hb, R, S, ro, e, ⟨hm, ho, by omega, by omega⟩, h2⟩
  · exact absurd hk h1.1
set_option maxRecDepth 100000 in
set_option maxHeartbeats 2000000 in
theorem alive23_any (w : World) : Calls Try.prog 5 #[] w fun e w' => e = .returned (.bool true) ∧ Below w.heap.size w w' := by
  have HBU := Lib.hid (fun W ao (hc : Cel W ao (flat exE)) => built_any ⟨2, exE⟩ ao none 1 0 1 1 [] W hc (Cel.nil _ _) (fun _ => by decide) (by decide) (by decide))
  have HME := Lib.hid (fun W hb R S ro (h : BH W hb 2 exE R S ro) => meet_any hb 2 exE R S ro 1 1 W h)
  have HDI := Lib.hid (fun W hb R S ro (h : BH W hb 2 exE R S ro) => dist_any hb 2 exE R S ro 0 1 W h)
  unfold MeetPost at HME
  unfold DistPost at HDI
  go_enter Try.func5, Try.ntmps5
  go_upto_region 2 with (go_at_call 6; refine (HBU.out _ (some ⟨w.heap.size, 0, none⟩) (cel_lit3 _ _ _ _ _)).mono ?_; rintro e w1 hp; obtain ⟨hb, R, S, ro, rfl, hbh, hb1⟩ := hp.good (by decide) (by decide) (by decide); (have HBH := Lib.hid hbh); (have HB1 := Lib.hid hb1); clear hp hbh hb1)
  go_wp2_with (first
    | (go_at_call 9; refine (HME.out _ _ _ _ _ HBH.out).mono ?_; rintro e w2 ⟨⟨v, d, k, rfl, hm⟩, hb2⟩; obtain ⟨rfl, rfl, rfl⟩ := ex_meet HBH.out.ok hm; (have HB2 := Lib.hid hb2); clear hb2 hm)
    | (go_at_call 7; refine (HDI.out _ _ _ _ _ (HBH.out.go HB2.out)).mono ?_; rintro e w3 ⟨⟨d, k, rfl, hd⟩, hb3⟩; obtain ⟨rfl, rfl⟩ := ex_dist hd; (have HB3 := Lib.hid hb3); clear hb3 hd))
  go_ret
  exact ⟨rfl, (((Below.of_al _ _).st HB1.out).st HB2.out).st HB3.out⟩
end Go.Proofs.Ytkdomobedfhhgaa
end
