/-
  Walk of package gtext: the graph of some words.
-/
import Derived.Test.YtelcmkccfjdmjaaGreatDoorProg
import Derived.Test.YtelcmkccfjdmjaaGreatDoorGpF
import Derived.Test.YtelcmkccfjdmjaaGreatDoorQTail
import Derived.Deep.RegionLaw
import Derived.Laws.EntriesVeiled
namespace Go.Proofs.YtelcmkccfjdmjaaGreatDoor
open Go.Proofs Go.RowKit Go.Shelf

theorem C2.off {W W' : World} {b R : Nat} {x y : Value} (h : C2 W b x y) (hb : Off R W W') (hn : b ≠ R) : C2 W' b x y :=
  ⟨hb.cell h.1 hn, hb.cell h.2.1 hn, (hb.frozen (cell_ltP h.1) hn).trans h.2.2.1, (hb.frozen (cell_ltP h.2.1) hn).trans h.2.2.2⟩
theorem Rd.below {w w' : World} {R B : Nat} {ao : Option Addr} {cap n k : Nat} {f : Int} (h : Rd w R ao cap n k f) (hb : Below B w w') (hl : R < B) : Rd w' R ao cap n k f :=
  ⟨(hb.cell (by exact hl)).trans h.1, (hb.cell (by exact hl)).trans h.2.1, (hb.cell (by exact hl)).trans h.2.2.1, (hb.frozen (by exact hl)).trans h.2.2.2.1, (hb.frozen (by exact hl)).trans h.2.2.2.2⟩

theorem Upto.len {l : List ByteArray} {k : Nat} (h : Upto l k) : k ≤ l.length := by
  rcases Nat.eq_zero_or_pos k with h0 | h0
  · omega
  · have := faultK_lt (h (k - 1) (by omega))
    omega
theorem Rd.new (w : World) (T : TypeId) (ao : Option Addr) (cap n : Nat) : Rd (w.alloc (.cells #[.slice ao n cap, .int .i64 0, .int .i64 0] T)) w.heap.size ao cap n 0 0 := ⟨by go_simp, by go_simp, by go_simp, by go_simp, by go_simp⟩
theorem owns_off {w w' : World} {base R : Nat} {e : TypeId} {size n : Nat} {v : Value} {xs : List Value} (h : w.ownsRow base e size v n xs) (hb : Off R w w') (hR : R < base) : w'.ownsRow base e size v n xs := by
  refine ⟨h.1, ?_⟩
  rcases h.2 with h2 | ⟨g, cap, cur, hv, hbg, hg, r⟩
  · exact .inl h2
  · exact .inr ⟨g, cap, cur, hv, hbg, by rw [hb.block g (Array.getElem?_eq_some_iff.1 hg).1 (by omega)]; exact hg, r⟩
/-- how far Parse is -/
def PSt (l : List ByteArray) (n : Int) (M i k : Nat) (f : Int) (es : List EdgeD) : Prop :=
  es.length = i ∧ Upto l k ∧ ((f = 0 ∧ k = 2 + 3 * i ∧ es = fullEs l i ∧ M = (valK l 1).toNat ∧ n = valK l 0) ∨ (f ≠ 0 ∧ faultK l k = f ∧ k < needP l))
theorem PSt.first (l : List ByteArray) : ∃ M : Nat, (firstS l).2.1 = (M : Int) ∧ M ≤ 16384 ∧ 0 ≤ (firstS l).1 ∧ (firstS l).1 ≤ 4096 ∧ PSt l (firstS l).1 M 0 (firstS l).2.2.1 (firstS l).2.2.2 [] := by
  rcases firstS_law l with ⟨e, u⟩ | ⟨n, k, f, e, hf, u, h1, h2, h3, h4⟩
  · have hm := u.m (Nat.le_refl _)
    have hn := u.n (by decide)
    rw [e]
    exact ⟨(valK l 1).toNat, by simp only; omega, by omega, by simp only; omega, hn.2, rfl, u, .inl ⟨rfl, rfl, rfl, rfl, rfl⟩⟩
  · rw [e]
    exact ⟨0, rfl, by decide, h3, h4, rfl, u, .inr ⟨hf, h1, by have := needP_two l; simp only; omega⟩⟩
theorem PSt.step {l : List ByteArray} {n : Int} {M i k : Nat} {es : List EdgeD} (h : PSt l n M i k 0 es) (hi : i < M) : PSt l n M (i + 1) (edgeS l n k 0).2.1 (edgeS l n k 0).2.2 (es ++ [(edgeS l n k 0).1]) := by
  obtain ⟨h0, hu, ⟨-, rfl, rfl, rfl, rfl⟩ | ⟨hf, _⟩⟩ := h
  · rcases edgeS_law hu with ⟨e, u⟩ | ⟨e', k', f', e, hf, u, h1, h2⟩
    · rw [e]
      exact ⟨by simp [fullEs_length], u, .inl ⟨rfl, rfl, (fullEs_succ l i).symm, rfl, rfl⟩⟩
    · rw [e]
      exact ⟨by simp [fullEs_length], u, .inr ⟨hf, h1, by rw [needP_of (hu.le (by omega))]; simp only; omega⟩⟩
  · exact absurd rfl hf
theorem PSt.bad {l : List ByteArray} {n : Int} {M i k : Nat} {f : Int} {es : List EdgeD} (h : PSt l n M i k f es) (hf : f ≠ 0) : parseG l = (⟨0, []⟩, (k : Int), f) := by
  obtain ⟨h0, hu, ⟨hz, _⟩ | ⟨_, h1, h2⟩⟩ := h
  · exact absurd hz hf
  · rw [parseG_bad hu h2 (by rw [h1]; exact hf), h1]
theorem PSt.long {l : List ByteArray} {n : Int} {M k : Nat} {es : List EdgeD} (h : PSt l n M M k 0 es) (hk : k < l.length) : parseG l = (⟨0, []⟩, (k : Int), 3) := by
  obtain ⟨h0, hu, ⟨-, rfl, -, hm, -⟩ | ⟨hf, _⟩⟩ := h
  · have e : needP l = 2 + 3 * M := by rw [needP_of (hu.le (by omega)), hm]
    rw [← e] at hu hk ⊢
    exact parseG_long hu hk
  · exact absurd rfl hf
theorem PSt.done {l : List ByteArray} {n : Int} {M k : Nat} {es : List EdgeD} (h : PSt l n M M k 0 es) (hk : ¬ k < l.length) : parseG l = (⟨n, es⟩, 0, 0) := by
  obtain ⟨h0, hu, ⟨-, rfl, rfl, hm, rfl⟩ | ⟨hf, _⟩⟩ := h
  · have e : needP l = 2 + 3 * M := by rw [needP_of (hu.le (by omega)), hm]
    rw [← e] at hu hk
    rw [parseG_ok hu hk, hm]
  · exact absurd rfl hf
theorem PSt.nle {l : List ByteArray} {n : Int} {M i k : Nat} {es : List EdgeD} (h : PSt l n M i k 0 es) : 1 ≤ n := by
  obtain ⟨h0, hu, ⟨-, rfl, -, -, rfl⟩ | ⟨hf, _⟩⟩ := h
  · exact (hu.n (by omega)).1
  · exact absurd rfl hf

/-- what Parse leaves -/
def GPPost (w : World) (r : GD × Int × Int) (e : Ending) (w' : World) : Prop :=
  ∃ ao cap, e = .returned (.tuple #[.agg #[.int .i64 r.1.n, .slice ao r.1.es.length cap], .int .i64 r.2.1, .int .i64 r.2.2]) ∧ Cel w' ao (flat r.1.es) ∧ Below w.heap.size w w'
/-- what Parse leaves, and that it is of its own making -/
def GPPostF (w : World) (r : GD × Int × Int) (e : Ending) (w' : World) : Prop :=
  ∃ ao cap, e = .returned (.tuple #[.agg #[.int .i64 r.1.n, .slice ao r.1.es.length cap], .int .i64 r.2.1, .int .i64 r.2.2]) ∧ Cel w' ao (flat r.1.es) ∧ Below w.heap.size w w' ∧ ∀ x, ao = some x → w.heap.size ≤ x.block

/-- where the words are wrong -/
def GPJ (l : List ByteArray) (ao : Option Addr) (cap : Nat) (w0 : World) (_ lb : Nat) (a : Act) (w : World) : Prop :=
  lb = 0 ∧ ∃ u, a = lit 67 u ∧ u 2 = .pointer (some ⟨w0.heap.size, 0, none⟩) ∧ u 5 = .pointer (some ⟨w0.heap.size + 1, 0, none⟩) ∧
    ∃ (k : Nat) (f : Int) (x v : Value), Aside (Rd w (w0.heap.size + 1) ao cap l.length k f ∧ C2 w w0.heap.size x v ∧ Below w0.heap.size w0 w ∧ parseG l = (⟨0, []⟩, (k : Int), f))

set_option maxHeartbeats 4000000 in
theorem GParse_own (l : List ByteArray) (ao : Option Addr) (cap : Nat) (w : World) (hc : Cel w ao (l.map encS))
    (hsz : ∀ x ∈ l, x.size ≤ 140737488355328) (hl : l.length ≤ 140737488355328) :
    Calls Tryz.prog 114 #[.slice ao l.length cap] w (GPPostF w (parseG l)) := by
  have HC := Lib.hid hc
  have HA := Lib.hid hc.ltL
  have HF := Lib.hid (fun R W h1 h2 h3 => first_any l ao cap R W h1 h2 h3 hsz hl)
  have HE := Lib.hid (fun R k f n W h1 h2 h3 h4 h5 => edge_any l ao cap R k f n W h1 h2 h3 hsz hl h4 h5)
  obtain ⟨M, hM, hM2, hn0, hn1, hps⟩ := PSt.first l
  have HP := Lib.hid hps
  obtain ⟨S, hS⟩ : ∃ S, firstS l = S := ⟨_, rfl⟩
  rw [hS] at HF hM hn0 hn1 HP
  clear hc hS hps
  obtain ⟨n, m, k0, f0⟩ := S
  simp only at HF hM hn0 hn1 HP
  subst hM
  go_enter Tryz.func114, Tryz.ntmps114
  repeat go_step
  refine wp_scope_into 0 0 (GPJ l ao cap w) rfl ?_ ?_ ?_ ?_
  · rintro a b lb a' w' _ h
    exact h
  · intro hcont
    have HCONT := Lib.hid hcont
    clear hcont
    go_wp2_with fail
    obtain ⟨W2, hW2⟩ : ∃ W2, W2 = (w.alloc (Obj.cells #[.int .i64 0, .slice none 0 0] 53)).alloc (Obj.cells #[.slice ao l.length cap, .int .i64 0, .int .i64 0] 185) := ⟨_, rfl⟩
    have HG2 := Lib.hid (show C2 W2 w.heap.size (.int .i64 0) (.slice none 0 0) by rw [hW2]; exact (C2.new _ _ _ _).go (Below.of_al _ _))
    have HD2 := Lib.hid (show Rd W2 (w.heap.size + 1) ao cap l.length 0 0 by
      rw [hW2]
      have h := Rd.new (w.alloc (Obj.cells #[.int .i64 0, .slice none 0 0] 53)) 185 ao cap l.length
      rw [show (w.alloc (Obj.cells #[.int .i64 0, .slice none 0 0] 53)).heap.size = w.heap.size + 1 by simp] at h
      exact h)
    have HW2 := Lib.hid (show Below w.heap.size w W2 ∧ W2.heap.size = w.heap.size + 2 by rw [hW2]; exact ⟨by repeat (first | exact Below.refl _ _ | refine Below.al ?_ _ | refine Below.dr ?_ _ | refine Below.drew ?_ | assumption | (refine Below.st ?_ (by assumption))), by simp⟩)
    rw [← hW2]
    clear hW2
    refine (HF.out (w.heap.size + 1) W2 HD2.out (HC.out.go HW2.out.1) (fun h0 x hx => by have := HA.out h0 x hx; omega)).mono ?_
    rintro e w3 ⟨rfl, hd3, ho3⟩
    have HG3 := Lib.hid (HG2.out.off ho3 (by omega))
    have HD3 := Lib.hid hd3
    have HW3 := Lib.hid (HW2.out.1.trans (ho3.below (by omega) HW2.out.1.size))
    have hz3 : W2.heap.size ≤ w3.heap.size := ho3.size
    have HZ3 := Lib.hid (show w.heap.size + 2 ≤ w3.heap.size by have := HW2.out.2; omega)
    clear hd3 ho3 HD2 HG2 HW2 hz3
    obtain ⟨a0, a1, y0, y1⟩ := HG3.out
    go_wp2_with fail
    clear a0 a1 y0 y1
    have hq4 := Off.set w.heap.size 0 w3 (.int .i64 n)
    have HG4 := Lib.hid (HG3.out.set0 (.int .i64 n))
    have HD4 := Lib.hid (HD3.out.off hq4 (by omega))
    have HW4 := Lib.hid (HW3.out.setCell (p := ⟨w.heap.size, 0, none⟩) (Nat.le_refl _) (.int .i64 n))
    have HZ4 := Lib.hid (show w.heap.size + 2 ≤ (w3.setCell ⟨w.heap.size, 0, none⟩ (.int .i64 n)).heap.size by have := HZ3.out; simpa [World.setCell] using this)
    clear hq4 HG3 HD3 HW3 HZ3
    generalize w3.setCell ⟨w.heap.size, 0, none⟩ (.int .i64 n) = w4 at *
    go_loopg [19] M (fun gq v19 wr => ∃ (i k : Nat) (f : Int) (es : List EdgeD) (v : Value), i ≤ M ∧ M - i ≤ gq ∧ v19 = .int .i64 i ∧ Aside (PSt l n M i k f es) ∧ Aside (Rd wr (w.heap.size + 1) ao cap l.length k f) ∧
      Aside (C2 wr w.heap.size (.int .i64 n) v) ∧ Aside (wr.ownsRow (w.heap.size + 2) 149 3 v i (flat es)) ∧ Aside (Below w.heap.size w wr) ∧ Aside (w.heap.size + 2 ≤ wr.heap.size))
    case atStart => exact ⟨0, k0, f0, [], .slice none 0 0, Nat.zero_le _, by omega, rfl, HP.out, HD4.out, HG4.out, World.ownsRow_nil _ _ _ _, HW4.out, HZ4.out⟩
    case round =>
      clear HG4 HD4 HW4 HZ4
      obtain ⟨i, k, f, es, v, hi, hg, rfl, HS, HD, HG, HO, HB, HZ⟩ := hrel
      obtain ⟨d0, d1, d2, z1, z2⟩ := HD.out
      obtain ⟨a0, a1, y0, y1⟩ := HG.out
      by_cases hlt : i < M
      · by_cases hf : f = 0
        · subst hf
          have hnle := HS.out.nle
          have HS2 := Lib.hid (HS.out.step hlt)
          have hes := HS.out.1
          have HEc := Lib.hid (fun W h1 h2 => HE.out (w.heap.size + 1) k 0 n W h1 h2 (fun h0 x hx => by have := HA.out h0 x hx; omega) HS.out.2.1.len ⟨hnle, hn1⟩)
          generalize edgeS l n k 0 = s at *
          obtain ⟨⟨ef, et, ew⟩, k', f'⟩ := s
          simp only at HS2 HEc
          go_wp2
          go_region_law (first
            | (go_simp; go_at_call 153; refine (HEc.out _ (HD.out.go (Below.of_dr wr 1)) (HC.out.go (HB.out.dr 1))).mono ?_; rintro e w5 ⟨rfl, hd5, ho5⟩; (have HG5 := Lib.hid ((HG.out.go (Below.of_dr wr 1)).off ho5 (by omega)); have HO5 := Lib.hid (owns_off (owns_dr HO.out 1) ho5 (by omega)); have HD5 := Lib.hid hd5; have HZ5 := Lib.hid (show wr.heap.size ≤ w5.heap.size from ho5.size); have HB5 := Lib.hid ((HB.out.dr 1).trans (ho5.below (by omega) (HB.out.dr 1).size))); clear hd5 ho5; obtain ⟨b0, b1, q0, q1⟩ := HG5.out; have b2 := fun o => cell_later (Below.of_al w5 o) b1)
            | (refine step_app rfl (.tmp 27) (.tmp 31) 51 rfl (w.heap.size + 2) 149 _ 3 24 elem_edge Tryz.underlying51 v i (flat es) ⟨w5.heap.size, 0, none⟩ 1 1 [.int .i64 ef, .int .i64 et, .int .u64 ew] rfl rfl (World.ownsRow.alloc HO5.out _) (three_cells _ _ _ _ _ rfl) (by intro u hu; simp at hu; rcases hu with rfl | rfl | rfl <;> rfl) ⟨rfl, by decide, by omega, by omega, by have := HZ.out; have := HZ5.out; simp; omega⟩ ?_; intro g6 cap6 w6 hown hge hbl; (have HO6 := Lib.hid hown; have HG6 := Lib.hid ((HG5.out.go (Below.of_al _ _)).below hbl (by omega)); have HD6 := Lib.hid ((HD5.out.go (Below.of_al _ _)).below hbl (by omega)); have HZ6 := Lib.hid (show w5.heap.size < w6.heap.size by have := hbl.size; simp at this; omega); have HB6 := Lib.hid ((HB5.out.al _).trans (hbl.mono (by omega)))); clear hown hbl; obtain ⟨c0, c1, p0, p1⟩ := HG6.out))
          all_goals
            go_wp2
            go_roundg (M - (i + 1))
            case measure => omega
            case rel => exact ⟨i + 1, k', f', es ++ [(⟨ef, et, ew⟩ : EdgeD)], .slice (some ⟨g6, 0, none⟩) (i + 1) cap6, by omega, by omega, by go_num, HS2.out, HD6.out.off (Off.set _ _ _ _) (by omega), HG6.out.set1 _, by rw [flat_append]; exact ownsRow_setCell_below HO6.out (by simp) _, HB6.out.setCell (Nat.le_refl _) _, (show w.heap.size + 2 ≤ (w6.setCell _ _).heap.size by have := HZ6.out; have := HZ5.out; have := HZ.out; simp [World.setCell]; omega)⟩
        · have HBAD := Lib.hid (HS.out.bad hf)
          have hf' : (f != 0) = true := by simpa using hf
          go_wp2
          go_step3
          repeat go_step
          rw [jumps_goto]
          exact ⟨rfl, _, lit_of 67 _ rfl rfl, rfl, rfl, k, f, _, _, HD.out, HG.out, HB.out, HBAD.out⟩
      · obtain rfl : i = M := by omega
        by_cases hf : f = 0
        · subst hf
          by_cases hlong : k < l.length
          · have HBAD := Lib.hid (HS.out.long hlong)
            go_wp2
            go_step3
            first
              | refine HCONT.out _ _ ?_
              | (go_step; refine HCONT.out _ _ ?_)
              | (go_step; go_step; refine HCONT.out _ _ ?_)
              | (go_step; go_step; go_step; refine HCONT.out _ _ ?_)
            exact ⟨rfl, _, lit_of 67 _ rfl rfl, rfl, rfl, k, 3, _, _, HD.out.fault 3, HG.out.off (Off.set _ _ _ _) (by omega), HB.out.setCell (Nat.le_succ _) _, HBAD.out⟩
          · have HOK := Lib.hid (HS.out.done hlong)
            obtain ⟨ao7, cap7, rfl, -⟩ := Cel.of_owns HO.out
            have HES := Lib.hid HS.out.1
            have r0 := ((HG.out.set0 (.int .i64 n)).set1 (.slice ao7 i cap7))
            go_wp2
            simp only [jumps_ret]
            obtain ⟨r0, r1, -, -⟩ := r0
            refine bodyPost_ret (by simp [results, Tryz.results114, go_sem, r0, r1]; try rfl) rfl ?_
            refine ⟨ao7, cap7, by rw [HOK.out, HES.out], ?_, (HB.out.setCell (Nat.le_refl _) _).setCell (Nat.le_refl _) _, fun x e => by have := (HO.out.lt x.block (by subst e; rfl)).1; omega⟩
            rw [HOK.out]
            obtain ⟨ao8, cap8, e8, hc8⟩ := Cel.of_owns (ownsRow_setCell_below (ownsRow_setCell_below HO.out (a := ⟨w.heap.size, 0, none⟩) (by simp) (.int .i64 n)) (a := ⟨w.heap.size, 1, none⟩) (by simp) (.slice ao7 i cap7))
            cases e8
            exact hc8
        · have HBAD := Lib.hid (HS.out.bad hf)
          have hf' : (f == 0) = false := by simpa using hf
          go_wp2
          go_step3
          first
            | refine HCONT.out _ _ ?_
            | (go_step; refine HCONT.out _ _ ?_)
            | (go_step; go_step; refine HCONT.out _ _ ?_)
            | (go_step; go_step; go_step; refine HCONT.out _ _ ?_)
          exact ⟨rfl, _, lit_of 67 _ rfl rfl, rfl, rfl, k, f, _, _, HD.out, HG.out, HB.out, HBAD.out⟩
  · rintro lb a' w' ⟨-, u, rfl, hu2, hu5, k, f, x, v, HA2⟩
    simp only [lit, List.range, List.range.loop, List.map_cons, List.map_nil, hu2, hu5]
    clear hu2 hu5
    obtain ⟨hd, hg, hb, hp⟩ := HA2
    have HD := Lib.hid hd
    have HG := Lib.hid hg
    have HB := Lib.hid hb
    have HQ := Lib.hid hp
    clear hd hg hb hp
    obtain ⟨d0, d1, d2, z1, z2⟩ := HD.out
    obtain ⟨a0, a1, y0, y1⟩ := HG.out
    go_wp2
    have r0 := ((HG.out.set0 (.int .i64 0)).set1 (.slice none 0 0))
    go_region
    go_wp2
    simp only [jumps_ret]
    obtain ⟨r0, r1, -, -⟩ := r0
    refine bodyPost_ret (by simp [results, Tryz.results114, go_sem, r0, r1]; try rfl) rfl ?_
    refine ⟨none, 0, by rw [HQ.out]; rfl, by rw [HQ.out]; exact Cel.nil _ _, ((HB.out.setCell (Nat.le_refl _) _).setCell (Nat.le_refl _) _).drew, fun _ e => by cases e⟩
  · rintro a lb a' w' hn ⟨h, _⟩
    exact absurd h hn

theorem GParse_any (l : List ByteArray) (ao : Option Addr) (cap : Nat) (w : World) (hc : Cel w ao (l.map encS))
    (hsz : ∀ x ∈ l, x.size ≤ 140737488355328) (hl : l.length ≤ 140737488355328) :
    Calls Tryz.prog 114 #[.slice ao l.length cap] w (GPPost w (parseG l)) :=
  (GParse_own l ao cap w hc hsz hl).mono fun _ _ ⟨ao, cap, h1, h2, h3, _⟩ => ⟨ao, cap, h1, h2, h3⟩

end Go.Proofs.YtelcmkccfjdmjaaGreatDoor
