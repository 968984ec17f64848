/-
  Walk of package upward: the search's memory; reach.
-/
import Derived.Test.YtkdomobedfhhgaaProg
import Derived.Test.YtkdomobedfhhgaaQt36
import Derived.Test.YtkdomobedfhhgaaQt15
import Derived.Test.YtkdomobedfhhgaaQt20
import Derived.Deep.Cut
set_option linter.unusedVariables false
set_option linter.unusedSimpArgs false
set_option linter.unnecessarySimpa false
namespace Go.Proofs.Ytkdomobedfhhgaa
open Go Go.Proofs Go.RowKit Go.Shelf Go.Proofs.Ytkdomobedfhhgaa.Hp Go.Proofs.Ytkdomobedfhhgaa.Ch

/-- the search's state -/
structure US where
  far : List (Option Int)
  bys : List Int
  l : List IK
  p : List Int
def reachU (s : US) (v : Nat) (d b : Int) : US := if (leastF s.far v d).1 then ⟨(leastF s.far v d).2, s.bys.set v b, (putF s.l s.p v d).2.1, (putF s.l s.p v d).2.2⟩ else s
/-- its blocks -/
def UX (sb rb fb hp : Nat) (va v : Value) (k : Nat) : Prop := SX sb rb k ∨ k = fb ∨ HX hp v va k
structure UpW (w0 W : World) (xb hb : Nat) (back : Bool) (sb rb fb hp n : Nat) (va v : Value) (s : US) : Prop where
  bx : PB W xb [.pointer (some ⟨hb, 0, none⟩), .bool back, .pointer (some ⟨sb, 0, none⟩), .slice (some ⟨fb, 0, none⟩) n n, .pointer (some ⟨hp, 0, none⟩)]
  sr : SrW w0 W sb rb fb hp va v s.far s.bys s.l s.p
  ok : HeapOK s.l s.p
  lens : s.far.length = n ∧ s.bys.length = n ∧ s.p.length = n
  sx : w0.heap.size ≤ xb ∧ xb ≠ sb ∧ xb ≠ rb ∧ xb ≠ fb ∧ ¬ HX hp v va xb
section
variable {w0 W W' : World} {xb hb : Nat} {back : Bool} {sb rb fb hp n : Nat} {va v : Value} {s : US}
theorem UpW.llen (h : UpW w0 W xb hb back sb rb fb hp n va v s) : s.l.length ≤ n := by
  have := heap_len h.ok
  have := h.lens.2.2
  omega
theorem UpW.ux (h : UpW w0 W xb hb back sb rb fb hp n va v s) : ∀ k, UX sb rb fb hp va v k → w0.heap.size ≤ k ∧ k < W.heap.size := by
  have h1 := h.sr.s1.lt
  have h2 := (h.sr.sp.lt fb rfl).2
  rintro k ((rfl | rfl) | rfl | hk)
  · exact ⟨h.sr.ge.1, h1.1⟩
  · exact ⟨h.sr.ge.2.1, h1.2⟩
  · exact ⟨h.sr.ge.2.2.1, h2⟩
  · refine ⟨h.sr.ge.2.2.2 k hk, ?_⟩
    rcases hk with rfl | hk | hk
    · exact h.sr.hp.pb.lt
    · exact (h.sr.hp.ol.lt k hk).2
    · exact (h.sr.hp.oa.lt k hk).2
theorem HeapW.off {X : Nat → Prop} {b : Nat} {l : List IK} {p : List Int} (h : HeapW W b v va l p) (ho : OffX X W W') (hX : ∀ k, HX b v va k → ¬ X k) : HeapW W' b v va l p :=
  ⟨h.pb.eq (ho.block _ h.pb.lt (hX _ (.inl rfl))), owns_eqb h.ol (fun k e => ho.block k (h.ol.lt k e).2 (hX _ (.inr (.inl e)))), owns_eqb h.oa (fun k e => ho.block k (h.oa.lt k e).2 (hX _ (.inr (.inr e)))), h.d1, h.d2, h.d3⟩
/-- other blocks turn -/
theorem UpW.off {X : Nat → Prop} (h : UpW w0 W xb hb back sb rb fb hp n va v s) (ho : OffX X W W') (hX : ∀ k, UX sb rb fb hp va v k → ¬ X k) (hx : ¬ X xb) (hge : ∀ k, X k → w0.heap.size ≤ k) : UpW w0 W' xb hb back sb rb fb hp n va v s :=
  ⟨h.bx.eq (ho.block _ h.bx.lt hx), ⟨h.sr.s1.off ho (hX _ (.inl (.inl rfl))) (hX _ (.inl (.inr rfl))), h.sr.hp.off ho (fun k hk => hX k (.inr (.inr hk))), owns_offH h.sr.sp ho (hX _ (.inr (.inl rfl))), h.sr.bel.trans (ho.below h.sr.bel.size hge), h.sr.ge, h.sr.sep, h.sr.sf⟩, h.ok, h.lens, h.sx⟩
theorem UpW.go (h : UpW w0 W xb hb back sb rb fb hp n va v s) (hb' : Below W.heap.size W W') : UpW w0 W' xb hb back sb rb fb hp n va v s := h.off (X := fun _ => False) (.of_below hb') (fun _ _ h => h) (fun h => h) (fun _ h => h.elim)
theorem leastF_len (f : List (Option Int)) (i : Nat) (d : Int) : (leastF f i d).2.length = f.length := by
  unfold leastF
  split
  · split
    · rfl
    · exact List.length_set
  · exact List.length_set
theorem leastF_false {f : List (Option Int)} {i : Nat} {d : Int} (h : (leastF f i d).1 = false) : (leastF f i d).2 = f ∧ ∃ e, f.getD i none = some e ∧ e ≤ d := by
  unfold leastF at h ⊢
  split
  · rename_i u hu
    rw [hu] at h
    simp only at h
    split at h
    · rename_i hle
      rw [if_pos hle]
      exact ⟨rfl, u, hu, hle⟩
    · cases h
  · rename_i hu
    rw [hu] at h
    cases h
theorem leastF_true {f : List (Option Int)} {i : Nat} {d : Int} (h : (leastF f i d).1 = true) : (leastF f i d).2 = f.set i (some d) ∧ ∀ e, f.getD i none = some e → d < e := by
  unfold leastF at h ⊢
  split
  · rename_i u hu
    rw [hu] at h
    simp only at h
    split at h
    · cases h
    · rename_i hle
      rw [if_neg hle]
      refine ⟨rfl, fun e he => ?_⟩
      rw [hu] at he
      cases he
      omega
  · rename_i hu
    exact ⟨rfl, fun e he => by rw [hu] at he; cases he⟩
end
/-- what reach leaves -/
def ReachPost (w0 W : World) (xb hb : Nat) (back : Bool) (sb rb fb hp n : Nat) (va v : Value) (s' : US) (e : Ending) (w' : World) : Prop :=
  e = .returned (.tuple #[]) ∧ ∃ v', UpW w0 w' xb hb back sb rb fb hp n va v' s' ∧ OffX (UX sb rb fb hp va v) W w' ∧ (v'.ownBlock = v.ownBlock ∨ ∃ g, v'.ownBlock = some g ∧ W.heap.size ≤ g)

set_option maxRecDepth 100000 in
set_option maxHeartbeats 4000000 in
theorem reach_any (w0 W : World) (xb hb : Nat) (back : Bool) (sb rb fb hp n : Nat) (va v : Value) (s : US) (u : Nat) (d b : Int) (h : UpW w0 W xb hb back sb rb fb hp n va v s) (hu : u < n) (hn : n ≤ 60000) :
    Calls Try.prog 61 #[.pointer (some ⟨xb, 0, none⟩), .int .i64 (u : Int), .int .u64 d, .int .i64 b] W (ReachPost w0 W xb hb back sb rb fb hp n va v (reachU s u d b)) := by
  have HLS := Lib.hid (sLeast_any sb rb u d s.far W h.sr.s1 (by rw [h.lens.1]; exact hu))
  have HH := Lib.hid h
  have HU := Lib.hid (show reachU s u d b = if (leastF s.far u d).1 then ⟨(leastF s.far u d).2, s.bys.set u b, (putF s.l s.p u d).2.1, (putF s.l s.p u d).2.2⟩ else s from rfl)
  obtain ⟨x2, -⟩ := h.bx 2 _ rfl
  unfold ReachPost
  cases hle : (leastF s.far u d).1 with
  | false =>
    have HF := Lib.hid (leastF_false hle)
    rw [hle] at HLS HU
    clear hle h
    go_enter Try.func61, Try.ntmps61
    go_wp2_with (go_at_call 73; refine HLS.out.mono ?_; rintro e w1 ⟨rfl, hs1, ho1⟩; (have HS1 := Lib.hid hs1); (have HO1 := Lib.hid ho1); clear hs1 ho1)
    try simp only [Exit.noGoto]
    refine bodyPost_end (results_none rfl _ _ _) rfl ?_
    refine ⟨rfl, v, ?_, HO1.out.mono (fun k hk => .inl hk), .inl rfl⟩
    rw [HU.out, if_neg (by simp)]
    have h1 := HH.out
    have h2 := HS1.out
    rw [HF.out.1] at h2
    exact ⟨h1.bx.eq (HO1.out.block _ h1.bx.lt (by rintro (e | e); exact h1.sx.2.1 e; exact h1.sx.2.2.1 e)), h1.sr.stamp h2 HO1.out, h1.ok, h1.lens, h1.sx⟩
  | true =>
    have HF := Lib.hid (leastF_true hle)
    rw [hle] at HLS HU
    have HPT := Lib.hid (fun WX (hx : SrW w0 WX sb rb fb hp va v (leastF s.far u d).2 (s.bys.set u b) s.l s.p) => hPut_any hp u d v va s.l s.p WX hx.hp h.ok (by rw [h.lens.2.2]; exact hu) (by have := h.llen; omega))
    have hul : u < s.bys.length := by rw [h.lens.2.1]; exact hu
    have hu0 : (0 : Int) ≤ (u : Int) := by omega
    have hu1 : (u : Int) < (n : Int) := by omega
    have hne : (xb = fb) = False := by simpa using h.sx.2.2.2.1
    unfold PutPost at HPT
    clear hle h
    go_enter Try.func61, Try.ntmps61
    go_wp2_with (first
      | (go_at_call 73; refine HLS.out.mono ?_; rintro e w1 ⟨rfl, hs1, ho1⟩; (have hsr1 := HH.out.sr.stamp hs1 ho1); (have hbx1 := HH.out.bx.eq (ho1.block _ HH.out.bx.lt (by rintro (e | e); exact HH.out.sx.2.1 e; exact HH.out.sx.2.2.1 e))); (obtain ⟨x3, -⟩ := hbx1 3 _ rfl); (obtain ⟨x4, -⟩ := hbx1 4 _ rfl); (have x4s : (w1.setCell ⟨fb, u, none⟩ (.int .i64 b)).cell? ⟨xb, 4, none⟩ = some (.pointer (some ⟨hp, 0, none⟩)) := by rw [World.cell?_setCell_other _ _ _ _ (fun e => HH.out.sx.2.2.2.1 (by cases e; rfl))]; exact x4); (have y0 := (hsr1.sp.cellAt u (by omega)).trans (List.getElem?_eq_getElem (by rw [List.length_map]; exact hul))); (have z0 := hsr1.sp.frozenAt u); (have HSR1 := Lib.hid hsr1); (have HBX1 := Lib.hid hbx1); (have HO1 := Lib.hid ho1); (have HSR2 := Lib.hid (hsr1.step u b)); clear hs1 ho1 hsr1 hbx1)
      | (go_at_call 36; refine (HPT.out _ HSR2.out).mono ?_; rintro e w3 ⟨rfl, v3, hh3, ho3, hv3⟩; (have HSR3 := Lib.hid (HSR2.out.heap hh3 ho3 hv3)); (have HO3 := Lib.hid ho3); (have HV3 := Lib.hid hv3); clear hh3 ho3 hv3))
    try simp only [Exit.noGoto]
    refine bodyPost_end (results_none rfl _ _ _) rfl ?_
    have hsz1 := HO1.out.size
    have hwz : (w1.setCell ⟨fb, u, none⟩ (.int .i64 b)).heap.size = w1.heap.size := by simp [World.setCell]
    have h0 := HH.out
    have hx1 : xb < w1.heap.size := HBX1.out.lt
    have hbx2 : PB (w1.setCell ⟨fb, u, none⟩ (.int .i64 b)) xb _ := HBX1.out.setAt (fun e => h0.sx.2.2.2.1 e.symm) _
    obtain ⟨l1, l2, l3, -⟩ := putF_law h0.ok (v := u) (by rw [h0.lens.2.2]; exact hu) d
    refine ⟨rfl, v3, ⟨?_, ?_, ?_, ?_, ?_⟩, ?_, ?_⟩
    · exact hbx2.eq (HO3.out.block _ (by rw [hwz]; exact hx1) h0.sx.2.2.2.2)
    · rw [HU.out, if_pos (by simp)]
      exact HSR3.out
    · rw [HU.out, if_pos (by simp)]
      exact l1
    · rw [HU.out, if_pos (by simp)]
      exact ⟨(leastF_len _ _ _).trans h0.lens.1, List.length_set.trans h0.lens.2.1, l2.trans h0.lens.2.2⟩
    · refine ⟨h0.sx.1, h0.sx.2.1, h0.sx.2.2.1, h0.sx.2.2.2.1, ?_⟩
      rintro (e | e | e)
      · exact h0.sx.2.2.2.2 (.inl e)
      · rcases HV3.out with k | ⟨g, k, hg⟩
        · exact h0.sx.2.2.2.2 (.inr (.inl (k.symm.trans e)))
        · rw [k] at e
          cases e
          omega
      · exact h0.sx.2.2.2.2 (.inr (.inr e))
    · exact ((HO1.out.mono (fun k hk => Or.inl hk)).trans (OffX.set (X := UX sb rb fb hp va v) (b := fb) (j := u) (.int .i64 b) (.inr (.inl rfl)))).trans (HO3.out.mono (fun k hk => .inr (.inr hk)))
    · rcases HV3.out with k | ⟨g, k, hg⟩
      · exact .inl k
      · exact .inr ⟨g, k, by omega⟩

end Go.Proofs.Ytkdomobedfhhgaa
