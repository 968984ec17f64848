/-
  Walk of the library's stable sort: merging any two parts.
-/
import Derived.Test.YtfjplphdkfiljaaDoorProg
import Derived.Test.YtfjplphdkfiljaaDoorSymB
namespace Go.Proofs.YtfjplphdkfiljaaDoor
open Go.Proofs Go.RowKit Go.Shelf

theorem rot_parts {key : Int → Int} {a m b mid s : Nat} {l l1 : List Int} (hab : a < m ∧ m < b) (hs : a ≤ s ∧ s ≤ m ∧ s ≤ mid ∧ mid + m - s ≤ b) (h1 : Srt key a m l) (h2 : Srt key m b l) (hc : Crs a m b l) (hr : Rot s m (mid + m - s) l l1) :
    Srt key a s l1 ∧ Srt key s mid l1 ∧ Crs a s mid l1 ∧ Srt key mid (mid + m - s) l1 ∧ Srt key (mid + m - s) b l1 ∧ Crs mid (mid + m - s) b l1 := by
  have g0 : ∀ k, k < s → l1[k]? = l[k]? := fun k hk => by rw [hr.2, if_neg (by omega), if_neg (by omega)]
  have g1 : ∀ k, s ≤ k → k < mid → l1[k]? = l[k + (m - s)]? := fun k h h' => by rw [hr.2, if_pos (by omega)]
  have g2 : ∀ k, mid ≤ k → k < mid + m - s → l1[k]? = l[k - (mid + m - s - m)]? := fun k h h' => by rw [hr.2, if_neg (by omega), if_pos (by omega)]
  have g3 : ∀ k, mid + m - s ≤ k → l1[k]? = l[k]? := fun k h => by rw [hr.2, if_neg (by omega), if_neg (by omega)]
  refine ⟨(h1.mono (Nat.le_refl _) hs.2.1).congr (fun k _ hk => g0 k hk), ?_, ?_, ?_, (h2.mono (by omega) (Nat.le_refl _)).congr (fun k hk _ => g3 k hk), ?_⟩
  · intro i j x y p q r hx hy
    rw [g1 i p (by omega)] at hx
    rw [g1 j (by omega) r] at hy
    exact h2 _ _ x y (by omega) (by omega) (by omega) hx hy
  · intro i j x y p q r t hx hy
    rw [g0 i q] at hx
    rw [g1 j r t] at hy
    exact hc _ _ x y p (by omega) (by omega) (by omega) hx hy
  · intro i j x y p q r hx hy
    rw [g2 i p (by omega)] at hx
    rw [g2 j (by omega) r] at hy
    exact h1 _ _ x y (by omega) (by omega) (by omega) hx hy
  · intro i j x y p q r t hx hy
    rw [g2 i p q] at hx
    rw [g3 j r] at hy
    exact hc _ _ x y (by omega) (by omega) (by omega) t hx hy

def YMid (key : Int → Int) (p : Nat) (l : List Int) (c : Nat) : Prop := ¬ key (l.getD (p - c) 0) < key (l.getD c 0)
theorem RowI.below {w w' : World} {base g N : Nat} {l : List Int} (h : RowI w base g N l) (hb : Below w.heap.size w w') : RowI w' base g N l := owns_goD h hb

theorem Crs.congr {a m b : Nat} {l l' : List Int} (h : Crs a m b l) (he : ∀ k, a ≤ k → k < b → l'[k]? = l[k]?) : Crs a m b l' := fun i j x y p q r t hx hy => by
  rw [he i p (by omega)] at hx
  rw [he j (by omega) t] at hy
  exact h i j x y p q r t hx hy
theorem bound_perm {M : Nat} {l l' : List Int} (h : ∀ x ∈ l, 0 ≤ x ∧ x < (M : Int)) (hp : l'.Perm l) : ∀ x ∈ l', 0 ≤ x ∧ x < (M : Int) := fun x hx => h x (hp.subset hx)
/-- a goal that the walking tactics leave alone -/
def Halt (P : Prop) : Prop := P
theorem Halt.out {P : Prop} (h : Halt P) : P := h
theorem Halt.mk {P : Prop} (h : P) : Halt P := h
theorem srt_short {key : Int → Int} {a b : Nat} {l : List Int} (h : b ≤ a) : Srt key a b l := fun i j x y p q r hx hy => absurd (show a < b by omega) (by omega)

set_option maxRecDepth 100000 in
set_option maxHeartbeats 16000000 in
theorem sym_step (key : Int → Int) (M F : Nat) (cb : Array Value) (base g N d a m b : Nat) (l : List Int) (w0 w : World) (hen : Enters Tryd.prog F) (hcmp : CmpOn F cb key M base w0) (hN : N ≤ 1000000) (ih : SymOK key M F cb base g N d w0)
    (hd : b - a ≤ d + 1) (ham : a + 1 < m) (hmb : m + 1 < b) (hbN : b ≤ N) (hbw : Below base w0 w) (hrow : RowI w base g N l) (h1 : Srt key a m l) (h2 : Srt key m b l) (hc : Crs a m b l) (hM : ∀ x ∈ l, 0 ≤ x ∧ x < (M : Int)) :
    Calls Tryd.prog 151 #[.slice (some ⟨g, 0, none⟩) N N, .int .i64 a, .int .i64 m, .int .i64 b, .func (.func F) #[] cb] w (SortPost key base g N a b l w0) := by
  have HC := Lib.hid hcmp
  have HM := Lib.hid hM
  have HB0 := Lib.hid hbw
  have HR0 := Lib.hid hrow
  have HS1 := Lib.hid h1
  have HS2 := Lib.hid h2
  have HCR := Lib.hid hc
  have HL := Lib.hid hrow.len
  have HIH := Lib.hid ih
  unfold Enters at hen
  clear hcmp hM hbw hrow h1 h2 hc ih
  have e1 : ((m : Int) - (a : Int) == 1) = false := by rw [beq_eq_false_iff_ne]; omega
  have e2 : ((b : Int) - (m : Int) == 1) = false := by rw [beq_eq_false_iff_ne]; omega
  obtain ⟨mid, hmide, hmid1, hmid2⟩ : ∃ mid : Nat, ((a : Int) + (b : Int)) / 2 = (mid : Int) ∧ 2 * mid ≤ a + b ∧ a + b ≤ 2 * mid + 1 := ⟨(a + b) / 2, by omega, by omega, by omega⟩
  by_cases hmm : mid < m
  · have hmm2 : (mid : Int) < (m : Int) := by omega
    have hlo2 : (mid : Int) + (m : Int) - (b : Int) = ((mid + m - b : Nat) : Int) := by omega
    go_enter Tryd.func151, Tryd.ntmps151
    go_wp2
    have HSIDE := Lib.hid (show (mid < m ∧ mid + m - b = mid + m - b ∧ mid = mid) ∨ (m ≤ mid ∧ mid + m - b = a ∧ mid = m) from .inl ⟨hmm, rfl, rfl⟩)
    have HMO := Lib.hid (mid_mono (lo := mid + m - b) (up := mid) (l := l) ⟨by omega, by omega⟩ ⟨hmid1, hmid2⟩ (by have := HL.out; omega) HS1.out HS2.out HSIDE.out)
    go_loopg [20, 21] N (fun gg v20 v21 wr => ∃ s r : Nat, r - s ≤ gg ∧ v20 = .int .i64 s ∧ v21 = .int .i64 r ∧ mid + m - b ≤ s ∧ s ≤ r ∧ r ≤ mid ∧ Aside (BinP (YMid key (mid + m - 1) l) (mid + m - b) (mid) s r) ∧ Aside (RowI wr base g N l) ∧ Aside (Below base w0 wr))
    case atStart => exact ⟨mid + m - b, mid, by omega, rfl, rfl, Nat.le_refl _, by omega, Nat.le_refl _, .start (by omega), HR0.out, HB0.out⟩
    case round =>
      clear HB0 HR0
      obtain ⟨s, r, hg, rfl, rfl, hls, hsr, hru, HBP, HR, HB⟩ := hrel
      by_cases hlt : s < r
      · obtain ⟨c, hc, hcs, hcr⟩ : ∃ c : Nat, c = (s + r) / 2 ∧ s ≤ c ∧ c < r := ⟨(s + r) / 2, rfl, by omega, by omega⟩
        obtain ⟨q, hq⟩ : ∃ q : Nat, q = mid + m - 1 - c := ⟨_, rfl⟩
        have hlt2 : (s : Int) < (r : Int) := by omega
        have hce : ((s : Int) + (r : Int)) / 2 = (c : Int) := by omega
        have hqN : (mid : Int) + (m : Int) - 1 - (c : Int) < (N : Int) := by omega
        have hcN : (c : Int) < (N : Int) := by omega
        have hq0 : (0 : Int) ≤ (mid : Int) + (m : Int) - 1 - (c : Int) := by omega
        have hqb : q < l.length := by have := HL.out; omega
        have hc0 : (0 : Int) ≤ (c : Int) := by omega
        have hl := HL.out
        obtain ⟨x, hx⟩ : ∃ x, l[q]? = some x := ⟨l[q]'hqb, List.getElem?_eq_getElem _⟩
        obtain ⟨y, hy⟩ : ∃ y, l[c]? = some y := ⟨l[c]'(by omega), List.getElem?_eq_getElem _⟩
        have hgx := getD_of hx
        have hgy := getD_of hy
        have c1 := HR.out.cell hx
        rw [hq] at c1
        have c2 := HR.out.cell hy
        have b1 := HM.out x (List.mem_of_getElem? hx)
        have b2 := HM.out y (List.mem_of_getElem? hy)
        have HCC := Lib.hid (fun W hb => HC.out W x y hb b1.1 b1.2 b2.1 b2.2)
        have hsz3 : base ≤ wr.heap.size := by have := HR.out.base; omega
        have K1 := fun p => cell_ext p c1
        have K2 := fun p => cell_ext p c2
        by_cases hk : key x < key y
        · have HBP2 := Lib.hid (HBP.out.no HMO.out hcs hcr (by show ¬ ¬ key (l.getD (mid + m - 1 - c) 0) < key (l.getD c 0); rw [← hq, hgx, hgy]; exact fun e => e hk))
          have hcz : cmpI (key x) (key y) = -1 := if_pos hk
          rw [hcz] at HCC
          clear hcz hgx hgy hk hx hy hc hl hqb hq b1 b2
          go_wp2
          refine wp_region_ext (by kernel_rfl) (by kernel_rfl) ?_
          repeat (go_big_quiet_step ((exact Calls.ext_of (HCC.out _ (below_mid HB.out hsz3 (below_ext wr _))))))
          refine wpQuiet_nil ?_
          rintro _ ⟨p4, rfl⟩
          have HB4 := Lib.hid (below_ext wr p4)
          generalize ext wr p4 = w4 at HB4 ⊢
          have HR4 := Lib.hid (show RowI w4 base g N l from owns_goD HR.out HB4.out)
          have HB5 := Lib.hid (below_mid HB.out hsz3 HB4.out)
          clear K1 K2 c1 c2
          go_wp2
          go_roundg (c - s)
          case measure => omega
          case rel => exact ⟨s, c, Nat.le_refl _, rfl, rfl, hls, hcs, by omega, HBP2.out, HR4.out, HB5.out⟩
        · have HBP2 := Lib.hid (HBP.out.yes HMO.out hcs hcr (by show ¬ key (l.getD (mid + m - 1 - c) 0) < key (l.getD c 0); rw [← hq, hgx, hgy]; exact hk))
          have hcz : ¬ cmpI (key x) (key y) < 0 := by unfold cmpI; rw [if_neg hk]; split <;> omega
          generalize cmpI (key x) (key y) = cz at *
          have hcz2 : (!decide (cz < 0)) = true := by simp; omega
          clear hgx hgy hk hx hy hc hl hqb hq b1 b2
          go_wp2
          refine wp_region_ext (by kernel_rfl) (by kernel_rfl) ?_
          repeat (go_big_quiet_step ((exact Calls.ext_of (HCC.out _ (below_mid HB.out hsz3 (below_ext wr _))))))
          refine wpQuiet_nil ?_
          rintro _ ⟨p4, rfl⟩
          have HB4 := Lib.hid (below_ext wr p4)
          generalize ext wr p4 = w4 at HB4 ⊢
          have HR4 := Lib.hid (show RowI w4 base g N l from owns_goD HR.out HB4.out)
          have HB5 := Lib.hid (below_mid HB.out hsz3 HB4.out)
          clear K1 K2 c1 c2
          go_wp2
          go_roundg (r - (c + 1))
          case measure => omega
          case rel => exact ⟨c + 1, r, Nat.le_refl _, by go_num, rfl, by omega, by omega, hru, HBP2.out, HR4.out, HB5.out⟩
      · obtain rfl : s = r := by omega
        have HMP := Lib.hid (BinP.mid (key := key) (l := l) HBP.out)
        obtain ⟨e, he⟩ : ∃ e : Nat, e + s = mid + m := ⟨mid + m - s, by omega⟩
        have HEE := Lib.hid (show mid + m - s = e by omega)
        have hee : (mid : Int) + (m : Int) - (s : Int) = (e : Int) := by omega
        have hsE : s ≤ m ∧ s ≤ mid ∧ a ≤ s ∧ m ≤ e ∧ mid ≤ e ∧ e ≤ b := by omega
        obtain ⟨q1, q2, q3, q4, q5, q6⟩ := hsE
        by_cases hT1 : s < m
        · have hT1i : (s : Int) < (m : Int) := by omega
          by_cases hT2 : m < e
          · have hT2i : (m : Int) < (e : Int) := by omega
            have HT := Lib.hid (rotate_any (.func (.func F) #[] cb) base g N s m e l w0 wr HB.out HR.out ⟨hT1, hT2⟩ (by omega) hN)
            go_wp2_with (go_at_call 167; refine HT.out.mono ?_; rintro e7 w7 ⟨⟨v7, rfl⟩, l1, HROT0, HP1, HR7, HB7⟩; refine Halt.out ?_)
            refine Halt.mk ?_
            have HROT := Lib.hid (show Rot s m (mid + m - s) l l1 from HEE.out ▸ HROT0.out)
            clear HT HROT0 hlt
            obtain ⟨pa1, pa2, pa3, pa4, pa5, pa6⟩ := rot_parts (mid := mid) ⟨by omega, by omega⟩ ⟨by omega, by omega, by omega, by omega⟩ HS1.out HS2.out HCR.out HROT.out
            have HPA1 := Lib.hid pa1
            have HPA2 := Lib.hid pa2
            have HPA3 := Lib.hid pa3
            have HPA4 := Lib.hid (show Srt key mid e l1 from HEE.out ▸ pa4)
            have HPA5 := Lib.hid (show Srt key e b l1 from HEE.out ▸ pa5)
            have HPA6 := Lib.hid (show Crs mid e b l1 from HEE.out ▸ pa6)
            clear pa1 pa2 pa3 pa4 pa5 pa6
            by_cases hA1 : a < s
            · have hA1i : (a : Int) < (s : Int) := by omega
              by_cases hA2 : s < mid
              · have hA2i : (s : Int) < (mid : Int) := by omega
                have HA4 := Lib.hid (HIH.out a s mid l1 w7 (by omega) hA1 hA2 (by omega) HB7.out HR7.out HPA1.out HPA2.out HPA3.out (bound_perm HM.out HP1.out))
                go_wp2_with (go_at_call 151; refine HA4.out.mono ?_; rintro e8 w8 ⟨⟨v8, rfl⟩, l8, HG8, HZ8, HR8, HB8⟩; refine Halt.out ?_)
                refine Halt.mk ?_
                have HG2 := Lib.hid (show Seg a mid l1 l8 from HG8.out)
                have HZ2 := Lib.hid (show Srt key a mid l8 from HZ8.out)
                by_cases hB1 : mid < e
                · have hB1i : (mid : Int) < (e : Int) := by omega
                  by_cases hB2 : e < b
                  · have hB2i : (e : Int) < (b : Int) := by omega
                    have HB4 := Lib.hid (HIH.out mid e b l8 w8 (by omega) hB1 hB2 (by omega) HB8.out HR8.out (HPA4.out.congr (fun k hk _ => HG2.out.out k (.inr hk))) (HPA5.out.congr (fun k hk _ => HG2.out.out k (.inr (by omega)))) (HPA6.out.congr (fun k hk _ => HG2.out.out k (.inr hk))) (bound_perm HM.out (HG2.out.perm.trans HP1.out)))
                    go_wp2_with (go_at_call 151; refine HB4.out.mono ?_; rintro e9 w9 ⟨⟨v9, rfl⟩, l9, HG9, HZ9, HR9, HB9⟩; refine Halt.out ?_)
                    refine Halt.mk ?_
                    have HFIN := Lib.hid (merge_mid ⟨by omega, by omega⟩ ⟨hmid1, hmid2⟩ (by have := HL.out; omega) HS1.out HS2.out HCR.out (by first | exact .inl ⟨hmm, rfl, rfl⟩ | exact .inr ⟨by omega, rfl, rfl⟩) HMP.out HROT.out HP1.out HG2.out HZ2.out HG9.out HZ9.out)
                    go_wp2
                    go_end0
                    exact ⟨⟨_, rfl⟩, _, HFIN.out.1, HFIN.out.2, HR9.out, HB9.out⟩
                  · have hB2i : ¬ (e : Int) < (b : Int) := by omega
                    have HFIN := Lib.hid (merge_mid ⟨by omega, by omega⟩ ⟨hmid1, hmid2⟩ (by have := HL.out; omega) HS1.out HS2.out HCR.out (by first | exact .inl ⟨hmm, rfl, rfl⟩ | exact .inr ⟨by omega, rfl, rfl⟩) HMP.out HROT.out HP1.out HG2.out HZ2.out (Seg.refl mid b _) ((show Srt key mid b l1 from (show e = b by omega) ▸ HPA4.out).congr (fun k hk _ => HG2.out.out k (.inr hk))))
                    go_wp2
                    go_end0
                    exact ⟨⟨_, rfl⟩, _, HFIN.out.1, HFIN.out.2, HR8.out, HB8.out⟩
                · have hB1i : ¬ (mid : Int) < (e : Int) := by omega
                  have HFIN := Lib.hid (merge_mid ⟨by omega, by omega⟩ ⟨hmid1, hmid2⟩ (by have := HL.out; omega) HS1.out HS2.out HCR.out (by first | exact .inl ⟨hmm, rfl, rfl⟩ | exact .inr ⟨by omega, rfl, rfl⟩) HMP.out HROT.out HP1.out HG2.out HZ2.out (Seg.refl mid b _) ((show Srt key mid b l1 from (show e = mid by omega) ▸ HPA5.out).congr (fun k hk _ => HG2.out.out k (.inr hk))))
                  go_wp2
                  go_end0
                  exact ⟨⟨_, rfl⟩, _, HFIN.out.1, HFIN.out.2, HR8.out, HB8.out⟩
              · have hA2i : ¬ (s : Int) < (mid : Int) := by omega
                have HG2 := Lib.hid (show Seg a mid l1 l1 from Seg.refl _ _ _)
                have HZ2 := Lib.hid (show Srt key a mid l1 from (show s = mid by omega) ▸ HPA1.out)
                by_cases hB1 : mid < e
                · have hB1i : (mid : Int) < (e : Int) := by omega
                  by_cases hB2 : e < b
                  · have hB2i : (e : Int) < (b : Int) := by omega
                    have HB4 := Lib.hid (HIH.out mid e b l1 w7 (by omega) hB1 hB2 (by omega) HB7.out HR7.out (HPA4.out.congr (fun k hk _ => HG2.out.out k (.inr hk))) (HPA5.out.congr (fun k hk _ => HG2.out.out k (.inr (by omega)))) (HPA6.out.congr (fun k hk _ => HG2.out.out k (.inr hk))) (bound_perm HM.out (HG2.out.perm.trans HP1.out)))
                    go_wp2_with (go_at_call 151; refine HB4.out.mono ?_; rintro e9 w9 ⟨⟨v9, rfl⟩, l9, HG9, HZ9, HR9, HB9⟩; refine Halt.out ?_)
                    refine Halt.mk ?_
                    have HFIN := Lib.hid (merge_mid ⟨by omega, by omega⟩ ⟨hmid1, hmid2⟩ (by have := HL.out; omega) HS1.out HS2.out HCR.out (by first | exact .inl ⟨hmm, rfl, rfl⟩ | exact .inr ⟨by omega, rfl, rfl⟩) HMP.out HROT.out HP1.out HG2.out HZ2.out HG9.out HZ9.out)
                    go_wp2
                    go_end0
                    exact ⟨⟨_, rfl⟩, _, HFIN.out.1, HFIN.out.2, HR9.out, HB9.out⟩
                  · have hB2i : ¬ (e : Int) < (b : Int) := by omega
                    have HFIN := Lib.hid (merge_mid ⟨by omega, by omega⟩ ⟨hmid1, hmid2⟩ (by have := HL.out; omega) HS1.out HS2.out HCR.out (by first | exact .inl ⟨hmm, rfl, rfl⟩ | exact .inr ⟨by omega, rfl, rfl⟩) HMP.out HROT.out HP1.out HG2.out HZ2.out (Seg.refl mid b _) ((show Srt key mid b l1 from (show e = b by omega) ▸ HPA4.out).congr (fun k hk _ => HG2.out.out k (.inr hk))))
                    go_wp2
                    go_end0
                    exact ⟨⟨_, rfl⟩, _, HFIN.out.1, HFIN.out.2, HR7.out, HB7.out⟩
                · have hB1i : ¬ (mid : Int) < (e : Int) := by omega
                  have HFIN := Lib.hid (merge_mid ⟨by omega, by omega⟩ ⟨hmid1, hmid2⟩ (by have := HL.out; omega) HS1.out HS2.out HCR.out (by first | exact .inl ⟨hmm, rfl, rfl⟩ | exact .inr ⟨by omega, rfl, rfl⟩) HMP.out HROT.out HP1.out HG2.out HZ2.out (Seg.refl mid b _) ((show Srt key mid b l1 from (show e = mid by omega) ▸ HPA5.out).congr (fun k hk _ => HG2.out.out k (.inr hk))))
                  go_wp2
                  go_end0
                  exact ⟨⟨_, rfl⟩, _, HFIN.out.1, HFIN.out.2, HR7.out, HB7.out⟩
            · have hA1i : ¬ (a : Int) < (s : Int) := by omega
              have HG2 := Lib.hid (show Seg a mid l1 l1 from Seg.refl _ _ _)
              have HZ2 := Lib.hid (show Srt key a mid l1 from (show s = a by omega) ▸ HPA2.out)
              by_cases hB1 : mid < e
              · have hB1i : (mid : Int) < (e : Int) := by omega
                by_cases hB2 : e < b
                · have hB2i : (e : Int) < (b : Int) := by omega
                  have HB4 := Lib.hid (HIH.out mid e b l1 w7 (by omega) hB1 hB2 (by omega) HB7.out HR7.out (HPA4.out.congr (fun k hk _ => HG2.out.out k (.inr hk))) (HPA5.out.congr (fun k hk _ => HG2.out.out k (.inr (by omega)))) (HPA6.out.congr (fun k hk _ => HG2.out.out k (.inr hk))) (bound_perm HM.out (HG2.out.perm.trans HP1.out)))
                  go_wp2_with (go_at_call 151; refine HB4.out.mono ?_; rintro e9 w9 ⟨⟨v9, rfl⟩, l9, HG9, HZ9, HR9, HB9⟩; refine Halt.out ?_)
                  refine Halt.mk ?_
                  have HFIN := Lib.hid (merge_mid ⟨by omega, by omega⟩ ⟨hmid1, hmid2⟩ (by have := HL.out; omega) HS1.out HS2.out HCR.out (by first | exact .inl ⟨hmm, rfl, rfl⟩ | exact .inr ⟨by omega, rfl, rfl⟩) HMP.out HROT.out HP1.out HG2.out HZ2.out HG9.out HZ9.out)
                  go_wp2
                  go_end0
                  exact ⟨⟨_, rfl⟩, _, HFIN.out.1, HFIN.out.2, HR9.out, HB9.out⟩
                · have hB2i : ¬ (e : Int) < (b : Int) := by omega
                  have HFIN := Lib.hid (merge_mid ⟨by omega, by omega⟩ ⟨hmid1, hmid2⟩ (by have := HL.out; omega) HS1.out HS2.out HCR.out (by first | exact .inl ⟨hmm, rfl, rfl⟩ | exact .inr ⟨by omega, rfl, rfl⟩) HMP.out HROT.out HP1.out HG2.out HZ2.out (Seg.refl mid b _) ((show Srt key mid b l1 from (show e = b by omega) ▸ HPA4.out).congr (fun k hk _ => HG2.out.out k (.inr hk))))
                  go_wp2
                  go_end0
                  exact ⟨⟨_, rfl⟩, _, HFIN.out.1, HFIN.out.2, HR7.out, HB7.out⟩
              · have hB1i : ¬ (mid : Int) < (e : Int) := by omega
                have HFIN := Lib.hid (merge_mid ⟨by omega, by omega⟩ ⟨hmid1, hmid2⟩ (by have := HL.out; omega) HS1.out HS2.out HCR.out (by first | exact .inl ⟨hmm, rfl, rfl⟩ | exact .inr ⟨by omega, rfl, rfl⟩) HMP.out HROT.out HP1.out HG2.out HZ2.out (Seg.refl mid b _) ((show Srt key mid b l1 from (show e = mid by omega) ▸ HPA5.out).congr (fun k hk _ => HG2.out.out k (.inr hk))))
                go_wp2
                go_end0
                exact ⟨⟨_, rfl⟩, _, HFIN.out.1, HFIN.out.2, HR7.out, HB7.out⟩
          · have hT2i : ¬ (m : Int) < (e : Int) := by omega
            obtain ⟨l1, hl1⟩ : ∃ l1, l1 = l := ⟨l, rfl⟩
            have HROT := Lib.hid (show Rot s m (mid + m - s) l l1 from by rw [hl1]; exact Rot.none _ (.inr (by omega)) ⟨by omega, by omega⟩)
            have HP1 := Lib.hid (show l1.Perm l by rw [hl1])
            rw [← hl1] at HR
            clear hl1 hlt
            obtain ⟨pa1, pa2, pa3, pa4, pa5, pa6⟩ := rot_parts (mid := mid) ⟨by omega, by omega⟩ ⟨by omega, by omega, by omega, by omega⟩ HS1.out HS2.out HCR.out HROT.out
            have HPA1 := Lib.hid pa1
            have HPA2 := Lib.hid pa2
            have HPA3 := Lib.hid pa3
            have HPA4 := Lib.hid (show Srt key mid e l1 from HEE.out ▸ pa4)
            have HPA5 := Lib.hid (show Srt key e b l1 from HEE.out ▸ pa5)
            have HPA6 := Lib.hid (show Crs mid e b l1 from HEE.out ▸ pa6)
            clear pa1 pa2 pa3 pa4 pa5 pa6
            by_cases hA1 : a < s
            · have hA1i : (a : Int) < (s : Int) := by omega
              by_cases hA2 : s < mid
              · have hA2i : (s : Int) < (mid : Int) := by omega
                have HA4 := Lib.hid (HIH.out a s mid l1 wr (by omega) hA1 hA2 (by omega) HB.out HR.out HPA1.out HPA2.out HPA3.out (bound_perm HM.out HP1.out))
                go_wp2_with (go_at_call 151; refine HA4.out.mono ?_; rintro e8 w8 ⟨⟨v8, rfl⟩, l8, HG8, HZ8, HR8, HB8⟩; refine Halt.out ?_)
                refine Halt.mk ?_
                have HG2 := Lib.hid (show Seg a mid l1 l8 from HG8.out)
                have HZ2 := Lib.hid (show Srt key a mid l8 from HZ8.out)
                by_cases hB1 : mid < e
                · have hB1i : (mid : Int) < (e : Int) := by omega
                  by_cases hB2 : e < b
                  · have hB2i : (e : Int) < (b : Int) := by omega
                    have HB4 := Lib.hid (HIH.out mid e b l8 w8 (by omega) hB1 hB2 (by omega) HB8.out HR8.out (HPA4.out.congr (fun k hk _ => HG2.out.out k (.inr hk))) (HPA5.out.congr (fun k hk _ => HG2.out.out k (.inr (by omega)))) (HPA6.out.congr (fun k hk _ => HG2.out.out k (.inr hk))) (bound_perm HM.out (HG2.out.perm.trans HP1.out)))
                    go_wp2_with (go_at_call 151; refine HB4.out.mono ?_; rintro e9 w9 ⟨⟨v9, rfl⟩, l9, HG9, HZ9, HR9, HB9⟩; refine Halt.out ?_)
                    refine Halt.mk ?_
                    have HFIN := Lib.hid (merge_mid ⟨by omega, by omega⟩ ⟨hmid1, hmid2⟩ (by have := HL.out; omega) HS1.out HS2.out HCR.out (by first | exact .inl ⟨hmm, rfl, rfl⟩ | exact .inr ⟨by omega, rfl, rfl⟩) HMP.out HROT.out HP1.out HG2.out HZ2.out HG9.out HZ9.out)
                    go_wp2
                    go_end0
                    exact ⟨⟨_, rfl⟩, _, HFIN.out.1, HFIN.out.2, HR9.out, HB9.out⟩
                  · have hB2i : ¬ (e : Int) < (b : Int) := by omega
                    have HFIN := Lib.hid (merge_mid ⟨by omega, by omega⟩ ⟨hmid1, hmid2⟩ (by have := HL.out; omega) HS1.out HS2.out HCR.out (by first | exact .inl ⟨hmm, rfl, rfl⟩ | exact .inr ⟨by omega, rfl, rfl⟩) HMP.out HROT.out HP1.out HG2.out HZ2.out (Seg.refl mid b _) ((show Srt key mid b l1 from (show e = b by omega) ▸ HPA4.out).congr (fun k hk _ => HG2.out.out k (.inr hk))))
                    go_wp2
                    go_end0
                    exact ⟨⟨_, rfl⟩, _, HFIN.out.1, HFIN.out.2, HR8.out, HB8.out⟩
                · have hB1i : ¬ (mid : Int) < (e : Int) := by omega
                  have HFIN := Lib.hid (merge_mid ⟨by omega, by omega⟩ ⟨hmid1, hmid2⟩ (by have := HL.out; omega) HS1.out HS2.out HCR.out (by first | exact .inl ⟨hmm, rfl, rfl⟩ | exact .inr ⟨by omega, rfl, rfl⟩) HMP.out HROT.out HP1.out HG2.out HZ2.out (Seg.refl mid b _) ((show Srt key mid b l1 from (show e = mid by omega) ▸ HPA5.out).congr (fun k hk _ => HG2.out.out k (.inr hk))))
                  go_wp2
                  go_end0
                  exact ⟨⟨_, rfl⟩, _, HFIN.out.1, HFIN.out.2, HR8.out, HB8.out⟩
              · have hA2i : ¬ (s : Int) < (mid : Int) := by omega
                have HG2 := Lib.hid (show Seg a mid l1 l1 from Seg.refl _ _ _)
                have HZ2 := Lib.hid (show Srt key a mid l1 from (show s = mid by omega) ▸ HPA1.out)
                by_cases hB1 : mid < e
                · have hB1i : (mid : Int) < (e : Int) := by omega
                  by_cases hB2 : e < b
                  · have hB2i : (e : Int) < (b : Int) := by omega
                    have HB4 := Lib.hid (HIH.out mid e b l1 wr (by omega) hB1 hB2 (by omega) HB.out HR.out (HPA4.out.congr (fun k hk _ => HG2.out.out k (.inr hk))) (HPA5.out.congr (fun k hk _ => HG2.out.out k (.inr (by omega)))) (HPA6.out.congr (fun k hk _ => HG2.out.out k (.inr hk))) (bound_perm HM.out (HG2.out.perm.trans HP1.out)))
                    go_wp2_with (go_at_call 151; refine HB4.out.mono ?_; rintro e9 w9 ⟨⟨v9, rfl⟩, l9, HG9, HZ9, HR9, HB9⟩; refine Halt.out ?_)
                    refine Halt.mk ?_
                    have HFIN := Lib.hid (merge_mid ⟨by omega, by omega⟩ ⟨hmid1, hmid2⟩ (by have := HL.out; omega) HS1.out HS2.out HCR.out (by first | exact .inl ⟨hmm, rfl, rfl⟩ | exact .inr ⟨by omega, rfl, rfl⟩) HMP.out HROT.out HP1.out HG2.out HZ2.out HG9.out HZ9.out)
                    go_wp2
                    go_end0
                    exact ⟨⟨_, rfl⟩, _, HFIN.out.1, HFIN.out.2, HR9.out, HB9.out⟩
                  · have hB2i : ¬ (e : Int) < (b : Int) := by omega
                    have HFIN := Lib.hid (merge_mid ⟨by omega, by omega⟩ ⟨hmid1, hmid2⟩ (by have := HL.out; omega) HS1.out HS2.out HCR.out (by first | exact .inl ⟨hmm, rfl, rfl⟩ | exact .inr ⟨by omega, rfl, rfl⟩) HMP.out HROT.out HP1.out HG2.out HZ2.out (Seg.refl mid b _) ((show Srt key mid b l1 from (show e = b by omega) ▸ HPA4.out).congr (fun k hk _ => HG2.out.out k (.inr hk))))
                    go_wp2
                    go_end0
                    exact ⟨⟨_, rfl⟩, _, HFIN.out.1, HFIN.out.2, HR.out, HB.out⟩
                · have hB1i : ¬ (mid : Int) < (e : Int) := by omega
                  have HFIN := Lib.hid (merge_mid ⟨by omega, by omega⟩ ⟨hmid1, hmid2⟩ (by have := HL.out; omega) HS1.out HS2.out HCR.out (by first | exact .inl ⟨hmm, rfl, rfl⟩ | exact .inr ⟨by omega, rfl, rfl⟩) HMP.out HROT.out HP1.out HG2.out HZ2.out (Seg.refl mid b _) ((show Srt key mid b l1 from (show e = mid by omega) ▸ HPA5.out).congr (fun k hk _ => HG2.out.out k (.inr hk))))
                  go_wp2
                  go_end0
                  exact ⟨⟨_, rfl⟩, _, HFIN.out.1, HFIN.out.2, HR.out, HB.out⟩
            · have hA1i : ¬ (a : Int) < (s : Int) := by omega
              have HG2 := Lib.hid (show Seg a mid l1 l1 from Seg.refl _ _ _)
              have HZ2 := Lib.hid (show Srt key a mid l1 from (show s = a by omega) ▸ HPA2.out)
              by_cases hB1 : mid < e
              · have hB1i : (mid : Int) < (e : Int) := by omega
                by_cases hB2 : e < b
                · have hB2i : (e : Int) < (b : Int) := by omega
                  have HB4 := Lib.hid (HIH.out mid e b l1 wr (by omega) hB1 hB2 (by omega) HB.out HR.out (HPA4.out.congr (fun k hk _ => HG2.out.out k (.inr hk))) (HPA5.out.congr (fun k hk _ => HG2.out.out k (.inr (by omega)))) (HPA6.out.congr (fun k hk _ => HG2.out.out k (.inr hk))) (bound_perm HM.out (HG2.out.perm.trans HP1.out)))
                  go_wp2_with (go_at_call 151; refine HB4.out.mono ?_; rintro e9 w9 ⟨⟨v9, rfl⟩, l9, HG9, HZ9, HR9, HB9⟩; refine Halt.out ?_)
                  refine Halt.mk ?_
                  have HFIN := Lib.hid (merge_mid ⟨by omega, by omega⟩ ⟨hmid1, hmid2⟩ (by have := HL.out; omega) HS1.out HS2.out HCR.out (by first | exact .inl ⟨hmm, rfl, rfl⟩ | exact .inr ⟨by omega, rfl, rfl⟩) HMP.out HROT.out HP1.out HG2.out HZ2.out HG9.out HZ9.out)
                  go_wp2
                  go_end0
                  exact ⟨⟨_, rfl⟩, _, HFIN.out.1, HFIN.out.2, HR9.out, HB9.out⟩
                · have hB2i : ¬ (e : Int) < (b : Int) := by omega
                  have HFIN := Lib.hid (merge_mid ⟨by omega, by omega⟩ ⟨hmid1, hmid2⟩ (by have := HL.out; omega) HS1.out HS2.out HCR.out (by first | exact .inl ⟨hmm, rfl, rfl⟩ | exact .inr ⟨by omega, rfl, rfl⟩) HMP.out HROT.out HP1.out HG2.out HZ2.out (Seg.refl mid b _) ((show Srt key mid b l1 from (show e = b by omega) ▸ HPA4.out).congr (fun k hk _ => HG2.out.out k (.inr hk))))
                  go_wp2
                  go_end0
                  exact ⟨⟨_, rfl⟩, _, HFIN.out.1, HFIN.out.2, HR.out, HB.out⟩
              · have hB1i : ¬ (mid : Int) < (e : Int) := by omega
                have HFIN := Lib.hid (merge_mid ⟨by omega, by omega⟩ ⟨hmid1, hmid2⟩ (by have := HL.out; omega) HS1.out HS2.out HCR.out (by first | exact .inl ⟨hmm, rfl, rfl⟩ | exact .inr ⟨by omega, rfl, rfl⟩) HMP.out HROT.out HP1.out HG2.out HZ2.out (Seg.refl mid b _) ((show Srt key mid b l1 from (show e = mid by omega) ▸ HPA5.out).congr (fun k hk _ => HG2.out.out k (.inr hk))))
                go_wp2
                go_end0
                exact ⟨⟨_, rfl⟩, _, HFIN.out.1, HFIN.out.2, HR.out, HB.out⟩
        · have hT1i : ¬ (s : Int) < (m : Int) := by omega
          obtain ⟨l1, hl1⟩ : ∃ l1, l1 = l := ⟨l, rfl⟩
          have HROT := Lib.hid (show Rot s m (mid + m - s) l l1 from by rw [hl1]; exact Rot.none _ (.inl (by omega)) ⟨by omega, by omega⟩)
          have HP1 := Lib.hid (show l1.Perm l by rw [hl1])
          rw [← hl1] at HR
          clear hl1 hlt
          obtain ⟨pa1, pa2, pa3, pa4, pa5, pa6⟩ := rot_parts (mid := mid) ⟨by omega, by omega⟩ ⟨by omega, by omega, by omega, by omega⟩ HS1.out HS2.out HCR.out HROT.out
          have HPA1 := Lib.hid pa1
          have HPA2 := Lib.hid pa2
          have HPA3 := Lib.hid pa3
          have HPA4 := Lib.hid (show Srt key mid e l1 from HEE.out ▸ pa4)
          have HPA5 := Lib.hid (show Srt key e b l1 from HEE.out ▸ pa5)
          have HPA6 := Lib.hid (show Crs mid e b l1 from HEE.out ▸ pa6)
          clear pa1 pa2 pa3 pa4 pa5 pa6
          by_cases hA1 : a < s
          · have hA1i : (a : Int) < (s : Int) := by omega
            by_cases hA2 : s < mid
            · have hA2i : (s : Int) < (mid : Int) := by omega
              have HA4 := Lib.hid (HIH.out a s mid l1 wr (by omega) hA1 hA2 (by omega) HB.out HR.out HPA1.out HPA2.out HPA3.out (bound_perm HM.out HP1.out))
              go_wp2_with (go_at_call 151; refine HA4.out.mono ?_; rintro e8 w8 ⟨⟨v8, rfl⟩, l8, HG8, HZ8, HR8, HB8⟩; refine Halt.out ?_)
              refine Halt.mk ?_
              have HG2 := Lib.hid (show Seg a mid l1 l8 from HG8.out)
              have HZ2 := Lib.hid (show Srt key a mid l8 from HZ8.out)
              by_cases hB1 : mid < e
              · have hB1i : (mid : Int) < (e : Int) := by omega
                by_cases hB2 : e < b
                · have hB2i : (e : Int) < (b : Int) := by omega
                  have HB4 := Lib.hid (HIH.out mid e b l8 w8 (by omega) hB1 hB2 (by omega) HB8.out HR8.out (HPA4.out.congr (fun k hk _ => HG2.out.out k (.inr hk))) (HPA5.out.congr (fun k hk _ => HG2.out.out k (.inr (by omega)))) (HPA6.out.congr (fun k hk _ => HG2.out.out k (.inr hk))) (bound_perm HM.out (HG2.out.perm.trans HP1.out)))
                  go_wp2_with (go_at_call 151; refine HB4.out.mono ?_; rintro e9 w9 ⟨⟨v9, rfl⟩, l9, HG9, HZ9, HR9, HB9⟩; refine Halt.out ?_)
                  refine Halt.mk ?_
                  have HFIN := Lib.hid (merge_mid ⟨by omega, by omega⟩ ⟨hmid1, hmid2⟩ (by have := HL.out; omega) HS1.out HS2.out HCR.out (by first | exact .inl ⟨hmm, rfl, rfl⟩ | exact .inr ⟨by omega, rfl, rfl⟩) HMP.out HROT.out HP1.out HG2.out HZ2.out HG9.out HZ9.out)
                  go_wp2
                  go_end0
                  exact ⟨⟨_, rfl⟩, _, HFIN.out.1, HFIN.out.2, HR9.out, HB9.out⟩
                · have hB2i : ¬ (e : Int) < (b : Int) := by omega
                  have HFIN := Lib.hid (merge_mid ⟨by omega, by omega⟩ ⟨hmid1, hmid2⟩ (by have := HL.out; omega) HS1.out HS2.out HCR.out (by first | exact .inl ⟨hmm, rfl, rfl⟩ | exact .inr ⟨by omega, rfl, rfl⟩) HMP.out HROT.out HP1.out HG2.out HZ2.out (Seg.refl mid b _) ((show Srt key mid b l1 from (show e = b by omega) ▸ HPA4.out).congr (fun k hk _ => HG2.out.out k (.inr hk))))
                  go_wp2
                  go_end0
                  exact ⟨⟨_, rfl⟩, _, HFIN.out.1, HFIN.out.2, HR8.out, HB8.out⟩
              · have hB1i : ¬ (mid : Int) < (e : Int) := by omega
                have HFIN := Lib.hid (merge_mid ⟨by omega, by omega⟩ ⟨hmid1, hmid2⟩ (by have := HL.out; omega) HS1.out HS2.out HCR.out (by first | exact .inl ⟨hmm, rfl, rfl⟩ | exact .inr ⟨by omega, rfl, rfl⟩) HMP.out HROT.out HP1.out HG2.out HZ2.out (Seg.refl mid b _) ((show Srt key mid b l1 from (show e = mid by omega) ▸ HPA5.out).congr (fun k hk _ => HG2.out.out k (.inr hk))))
                go_wp2
                go_end0
                exact ⟨⟨_, rfl⟩, _, HFIN.out.1, HFIN.out.2, HR8.out, HB8.out⟩
            · have hA2i : ¬ (s : Int) < (mid : Int) := by omega
              have HG2 := Lib.hid (show Seg a mid l1 l1 from Seg.refl _ _ _)
              have HZ2 := Lib.hid (show Srt key a mid l1 from (show s = mid by omega) ▸ HPA1.out)
              by_cases hB1 : mid < e
              · have hB1i : (mid : Int) < (e : Int) := by omega
                by_cases hB2 : e < b
                · have hB2i : (e : Int) < (b : Int) := by omega
                  have HB4 := Lib.hid (HIH.out mid e b l1 wr (by omega) hB1 hB2 (by omega) HB.out HR.out (HPA4.out.congr (fun k hk _ => HG2.out.out k (.inr hk))) (HPA5.out.congr (fun k hk _ => HG2.out.out k (.inr (by omega)))) (HPA6.out.congr (fun k hk _ => HG2.out.out k (.inr hk))) (bound_perm HM.out (HG2.out.perm.trans HP1.out)))
                  go_wp2_with (go_at_call 151; refine HB4.out.mono ?_; rintro e9 w9 ⟨⟨v9, rfl⟩, l9, HG9, HZ9, HR9, HB9⟩; refine Halt.out ?_)
                  refine Halt.mk ?_
                  have HFIN := Lib.hid (merge_mid ⟨by omega, by omega⟩ ⟨hmid1, hmid2⟩ (by have := HL.out; omega) HS1.out HS2.out HCR.out (by first | exact .inl ⟨hmm, rfl, rfl⟩ | exact .inr ⟨by omega, rfl, rfl⟩) HMP.out HROT.out HP1.out HG2.out HZ2.out HG9.out HZ9.out)
                  go_wp2
                  go_end0
                  exact ⟨⟨_, rfl⟩, _, HFIN.out.1, HFIN.out.2, HR9.out, HB9.out⟩
                · have hB2i : ¬ (e : Int) < (b : Int) := by omega
                  have HFIN := Lib.hid (merge_mid ⟨by omega, by omega⟩ ⟨hmid1, hmid2⟩ (by have := HL.out; omega) HS1.out HS2.out HCR.out (by first | exact .inl ⟨hmm, rfl, rfl⟩ | exact .inr ⟨by omega, rfl, rfl⟩) HMP.out HROT.out HP1.out HG2.out HZ2.out (Seg.refl mid b _) ((show Srt key mid b l1 from (show e = b by omega) ▸ HPA4.out).congr (fun k hk _ => HG2.out.out k (.inr hk))))
                  go_wp2
                  go_end0
                  exact ⟨⟨_, rfl⟩, _, HFIN.out.1, HFIN.out.2, HR.out, HB.out⟩
              · have hB1i : ¬ (mid : Int) < (e : Int) := by omega
                have HFIN := Lib.hid (merge_mid ⟨by omega, by omega⟩ ⟨hmid1, hmid2⟩ (by have := HL.out; omega) HS1.out HS2.out HCR.out (by first | exact .inl ⟨hmm, rfl, rfl⟩ | exact .inr ⟨by omega, rfl, rfl⟩) HMP.out HROT.out HP1.out HG2.out HZ2.out (Seg.refl mid b _) ((show Srt key mid b l1 from (show e = mid by omega) ▸ HPA5.out).congr (fun k hk _ => HG2.out.out k (.inr hk))))
                go_wp2
                go_end0
                exact ⟨⟨_, rfl⟩, _, HFIN.out.1, HFIN.out.2, HR.out, HB.out⟩
          · have hA1i : ¬ (a : Int) < (s : Int) := by omega
            have HG2 := Lib.hid (show Seg a mid l1 l1 from Seg.refl _ _ _)
            have HZ2 := Lib.hid (show Srt key a mid l1 from (show s = a by omega) ▸ HPA2.out)
            by_cases hB1 : mid < e
            · have hB1i : (mid : Int) < (e : Int) := by omega
              by_cases hB2 : e < b
              · have hB2i : (e : Int) < (b : Int) := by omega
                have HB4 := Lib.hid (HIH.out mid e b l1 wr (by omega) hB1 hB2 (by omega) HB.out HR.out (HPA4.out.congr (fun k hk _ => HG2.out.out k (.inr hk))) (HPA5.out.congr (fun k hk _ => HG2.out.out k (.inr (by omega)))) (HPA6.out.congr (fun k hk _ => HG2.out.out k (.inr hk))) (bound_perm HM.out (HG2.out.perm.trans HP1.out)))
                go_wp2_with (go_at_call 151; refine HB4.out.mono ?_; rintro e9 w9 ⟨⟨v9, rfl⟩, l9, HG9, HZ9, HR9, HB9⟩; refine Halt.out ?_)
                refine Halt.mk ?_
                have HFIN := Lib.hid (merge_mid ⟨by omega, by omega⟩ ⟨hmid1, hmid2⟩ (by have := HL.out; omega) HS1.out HS2.out HCR.out (by first | exact .inl ⟨hmm, rfl, rfl⟩ | exact .inr ⟨by omega, rfl, rfl⟩) HMP.out HROT.out HP1.out HG2.out HZ2.out HG9.out HZ9.out)
                go_wp2
                go_end0
                exact ⟨⟨_, rfl⟩, _, HFIN.out.1, HFIN.out.2, HR9.out, HB9.out⟩
              · have hB2i : ¬ (e : Int) < (b : Int) := by omega
                have HFIN := Lib.hid (merge_mid ⟨by omega, by omega⟩ ⟨hmid1, hmid2⟩ (by have := HL.out; omega) HS1.out HS2.out HCR.out (by first | exact .inl ⟨hmm, rfl, rfl⟩ | exact .inr ⟨by omega, rfl, rfl⟩) HMP.out HROT.out HP1.out HG2.out HZ2.out (Seg.refl mid b _) ((show Srt key mid b l1 from (show e = b by omega) ▸ HPA4.out).congr (fun k hk _ => HG2.out.out k (.inr hk))))
                go_wp2
                go_end0
                exact ⟨⟨_, rfl⟩, _, HFIN.out.1, HFIN.out.2, HR.out, HB.out⟩
            · have hB1i : ¬ (mid : Int) < (e : Int) := by omega
              have HFIN := Lib.hid (merge_mid ⟨by omega, by omega⟩ ⟨hmid1, hmid2⟩ (by have := HL.out; omega) HS1.out HS2.out HCR.out (by first | exact .inl ⟨hmm, rfl, rfl⟩ | exact .inr ⟨by omega, rfl, rfl⟩) HMP.out HROT.out HP1.out HG2.out HZ2.out (Seg.refl mid b _) ((show Srt key mid b l1 from (show e = mid by omega) ▸ HPA5.out).congr (fun k hk _ => HG2.out.out k (.inr hk))))
              go_wp2
              go_end0
              exact ⟨⟨_, rfl⟩, _, HFIN.out.1, HFIN.out.2, HR.out, HB.out⟩
  · have hmm2 : ¬ (mid : Int) < (m : Int) := by omega
    go_enter Tryd.func151, Tryd.ntmps151
    go_wp2
    have HSIDE := Lib.hid (show (mid < m ∧ a = mid + m - b ∧ m = mid) ∨ (m ≤ mid ∧ a = a ∧ m = m) from .inr ⟨by omega, rfl, rfl⟩)
    have HMO := Lib.hid (mid_mono (lo := a) (up := m) (l := l) ⟨by omega, by omega⟩ ⟨hmid1, hmid2⟩ (by have := HL.out; omega) HS1.out HS2.out HSIDE.out)
    go_loopg [20, 21] N (fun gg v20 v21 wr => ∃ s r : Nat, r - s ≤ gg ∧ v20 = .int .i64 s ∧ v21 = .int .i64 r ∧ a ≤ s ∧ s ≤ r ∧ r ≤ m ∧ Aside (BinP (YMid key (mid + m - 1) l) (a) (m) s r) ∧ Aside (RowI wr base g N l) ∧ Aside (Below base w0 wr))
    case atStart => exact ⟨a, m, by omega, rfl, rfl, Nat.le_refl _, by omega, Nat.le_refl _, .start (by omega), HR0.out, HB0.out⟩
    case round =>
      clear HB0 HR0
      obtain ⟨s, r, hg, rfl, rfl, hls, hsr, hru, HBP, HR, HB⟩ := hrel
      by_cases hlt : s < r
      · obtain ⟨c, hc, hcs, hcr⟩ : ∃ c : Nat, c = (s + r) / 2 ∧ s ≤ c ∧ c < r := ⟨(s + r) / 2, rfl, by omega, by omega⟩
        obtain ⟨q, hq⟩ : ∃ q : Nat, q = mid + m - 1 - c := ⟨_, rfl⟩
        have hlt2 : (s : Int) < (r : Int) := by omega
        have hce : ((s : Int) + (r : Int)) / 2 = (c : Int) := by omega
        have hqN : (mid : Int) + (m : Int) - 1 - (c : Int) < (N : Int) := by omega
        have hcN : (c : Int) < (N : Int) := by omega
        have hq0 : (0 : Int) ≤ (mid : Int) + (m : Int) - 1 - (c : Int) := by omega
        have hqb : q < l.length := by have := HL.out; omega
        have hc0 : (0 : Int) ≤ (c : Int) := by omega
        have hl := HL.out
        obtain ⟨x, hx⟩ : ∃ x, l[q]? = some x := ⟨l[q]'hqb, List.getElem?_eq_getElem _⟩
        obtain ⟨y, hy⟩ : ∃ y, l[c]? = some y := ⟨l[c]'(by omega), List.getElem?_eq_getElem _⟩
        have hgx := getD_of hx
        have hgy := getD_of hy
        have c1 := HR.out.cell hx
        rw [hq] at c1
        have c2 := HR.out.cell hy
        have b1 := HM.out x (List.mem_of_getElem? hx)
        have b2 := HM.out y (List.mem_of_getElem? hy)
        have HCC := Lib.hid (fun W hb => HC.out W x y hb b1.1 b1.2 b2.1 b2.2)
        have hsz3 : base ≤ wr.heap.size := by have := HR.out.base; omega
        have K1 := fun p => cell_ext p c1
        have K2 := fun p => cell_ext p c2
        by_cases hk : key x < key y
        · have HBP2 := Lib.hid (HBP.out.no HMO.out hcs hcr (by show ¬ ¬ key (l.getD (mid + m - 1 - c) 0) < key (l.getD c 0); rw [← hq, hgx, hgy]; exact fun e => e hk))
          have hcz : cmpI (key x) (key y) = -1 := if_pos hk
          rw [hcz] at HCC
          clear hcz hgx hgy hk hx hy hc hl hqb hq b1 b2
          go_wp2
          refine wp_region_ext (by kernel_rfl) (by kernel_rfl) ?_
          repeat (go_big_quiet_step ((exact Calls.ext_of (HCC.out _ (below_mid HB.out hsz3 (below_ext wr _))))))
          refine wpQuiet_nil ?_
          rintro _ ⟨p4, rfl⟩
          have HB4 := Lib.hid (below_ext wr p4)
          generalize ext wr p4 = w4 at HB4 ⊢
          have HR4 := Lib.hid (show RowI w4 base g N l from owns_goD HR.out HB4.out)
          have HB5 := Lib.hid (below_mid HB.out hsz3 HB4.out)
          clear K1 K2 c1 c2
          go_wp2
          go_roundg (c - s)
          case measure => omega
          case rel => exact ⟨s, c, Nat.le_refl _, rfl, rfl, hls, hcs, by omega, HBP2.out, HR4.out, HB5.out⟩
        · have HBP2 := Lib.hid (HBP.out.yes HMO.out hcs hcr (by show ¬ key (l.getD (mid + m - 1 - c) 0) < key (l.getD c 0); rw [← hq, hgx, hgy]; exact hk))
          have hcz : ¬ cmpI (key x) (key y) < 0 := by unfold cmpI; rw [if_neg hk]; split <;> omega
          generalize cmpI (key x) (key y) = cz at *
          have hcz2 : (!decide (cz < 0)) = true := by simp; omega
          clear hgx hgy hk hx hy hc hl hqb hq b1 b2
          go_wp2
          refine wp_region_ext (by kernel_rfl) (by kernel_rfl) ?_
          repeat (go_big_quiet_step ((exact Calls.ext_of (HCC.out _ (below_mid HB.out hsz3 (below_ext wr _))))))
          refine wpQuiet_nil ?_
          rintro _ ⟨p4, rfl⟩
          have HB4 := Lib.hid (below_ext wr p4)
          generalize ext wr p4 = w4 at HB4 ⊢
          have HR4 := Lib.hid (show RowI w4 base g N l from owns_goD HR.out HB4.out)
          have HB5 := Lib.hid (below_mid HB.out hsz3 HB4.out)
          clear K1 K2 c1 c2
          go_wp2
          go_roundg (r - (c + 1))
          case measure => omega
          case rel => exact ⟨c + 1, r, Nat.le_refl _, by go_num, rfl, by omega, by omega, hru, HBP2.out, HR4.out, HB5.out⟩
      · obtain rfl : s = r := by omega
        have HMP := Lib.hid (BinP.mid (key := key) (l := l) HBP.out)
        obtain ⟨e, he⟩ : ∃ e : Nat, e + s = mid + m := ⟨mid + m - s, by omega⟩
        have HEE := Lib.hid (show mid + m - s = e by omega)
        have hee : (mid : Int) + (m : Int) - (s : Int) = (e : Int) := by omega
        have hsE : s ≤ m ∧ s ≤ mid ∧ a ≤ s ∧ m ≤ e ∧ mid ≤ e ∧ e ≤ b := by omega
        obtain ⟨q1, q2, q3, q4, q5, q6⟩ := hsE
        by_cases hT1 : s < m
        · have hT1i : (s : Int) < (m : Int) := by omega
          by_cases hT2 : m < e
          · have hT2i : (m : Int) < (e : Int) := by omega
            have HT := Lib.hid (rotate_any (.func (.func F) #[] cb) base g N s m e l w0 wr HB.out HR.out ⟨hT1, hT2⟩ (by omega) hN)
            go_wp2_with (go_at_call 167; refine HT.out.mono ?_; rintro e7 w7 ⟨⟨v7, rfl⟩, l1, HROT0, HP1, HR7, HB7⟩; refine Halt.out ?_)
            refine Halt.mk ?_
            have HROT := Lib.hid (show Rot s m (mid + m - s) l l1 from HEE.out ▸ HROT0.out)
            clear HT HROT0 hlt
            obtain ⟨pa1, pa2, pa3, pa4, pa5, pa6⟩ := rot_parts (mid := mid) ⟨by omega, by omega⟩ ⟨by omega, by omega, by omega, by omega⟩ HS1.out HS2.out HCR.out HROT.out
            have HPA1 := Lib.hid pa1
            have HPA2 := Lib.hid pa2
            have HPA3 := Lib.hid pa3
            have HPA4 := Lib.hid (show Srt key mid e l1 from HEE.out ▸ pa4)
            have HPA5 := Lib.hid (show Srt key e b l1 from HEE.out ▸ pa5)
            have HPA6 := Lib.hid (show Crs mid e b l1 from HEE.out ▸ pa6)
            clear pa1 pa2 pa3 pa4 pa5 pa6
            by_cases hA1 : a < s
            · have hA1i : (a : Int) < (s : Int) := by omega
              by_cases hA2 : s < mid
              · have hA2i : (s : Int) < (mid : Int) := by omega
                have HA4 := Lib.hid (HIH.out a s mid l1 w7 (by omega) hA1 hA2 (by omega) HB7.out HR7.out HPA1.out HPA2.out HPA3.out (bound_perm HM.out HP1.out))
                go_wp2_with (go_at_call 151; refine HA4.out.mono ?_; rintro e8 w8 ⟨⟨v8, rfl⟩, l8, HG8, HZ8, HR8, HB8⟩; refine Halt.out ?_)
                refine Halt.mk ?_
                have HG2 := Lib.hid (show Seg a mid l1 l8 from HG8.out)
                have HZ2 := Lib.hid (show Srt key a mid l8 from HZ8.out)
                by_cases hB1 : mid < e
                · have hB1i : (mid : Int) < (e : Int) := by omega
                  by_cases hB2 : e < b
                  · have hB2i : (e : Int) < (b : Int) := by omega
                    have HB4 := Lib.hid (HIH.out mid e b l8 w8 (by omega) hB1 hB2 (by omega) HB8.out HR8.out (HPA4.out.congr (fun k hk _ => HG2.out.out k (.inr hk))) (HPA5.out.congr (fun k hk _ => HG2.out.out k (.inr (by omega)))) (HPA6.out.congr (fun k hk _ => HG2.out.out k (.inr hk))) (bound_perm HM.out (HG2.out.perm.trans HP1.out)))
                    go_wp2_with (go_at_call 151; refine HB4.out.mono ?_; rintro e9 w9 ⟨⟨v9, rfl⟩, l9, HG9, HZ9, HR9, HB9⟩; refine Halt.out ?_)
                    refine Halt.mk ?_
                    have HFIN := Lib.hid (merge_mid ⟨by omega, by omega⟩ ⟨hmid1, hmid2⟩ (by have := HL.out; omega) HS1.out HS2.out HCR.out (by first | exact .inl ⟨hmm, rfl, rfl⟩ | exact .inr ⟨by omega, rfl, rfl⟩) HMP.out HROT.out HP1.out HG2.out HZ2.out HG9.out HZ9.out)
                    go_wp2
                    go_end0
                    exact ⟨⟨_, rfl⟩, _, HFIN.out.1, HFIN.out.2, HR9.out, HB9.out⟩
                  · have hB2i : ¬ (e : Int) < (b : Int) := by omega
                    have HFIN := Lib.hid (merge_mid ⟨by omega, by omega⟩ ⟨hmid1, hmid2⟩ (by have := HL.out; omega) HS1.out HS2.out HCR.out (by first | exact .inl ⟨hmm, rfl, rfl⟩ | exact .inr ⟨by omega, rfl, rfl⟩) HMP.out HROT.out HP1.out HG2.out HZ2.out (Seg.refl mid b _) ((show Srt key mid b l1 from (show e = b by omega) ▸ HPA4.out).congr (fun k hk _ => HG2.out.out k (.inr hk))))
                    go_wp2
                    go_end0
                    exact ⟨⟨_, rfl⟩, _, HFIN.out.1, HFIN.out.2, HR8.out, HB8.out⟩
                · have hB1i : ¬ (mid : Int) < (e : Int) := by omega
                  have HFIN := Lib.hid (merge_mid ⟨by omega, by omega⟩ ⟨hmid1, hmid2⟩ (by have := HL.out; omega) HS1.out HS2.out HCR.out (by first | exact .inl ⟨hmm, rfl, rfl⟩ | exact .inr ⟨by omega, rfl, rfl⟩) HMP.out HROT.out HP1.out HG2.out HZ2.out (Seg.refl mid b _) ((show Srt key mid b l1 from (show e = mid by omega) ▸ HPA5.out).congr (fun k hk _ => HG2.out.out k (.inr hk))))
                  go_wp2
                  go_end0
                  exact ⟨⟨_, rfl⟩, _, HFIN.out.1, HFIN.out.2, HR8.out, HB8.out⟩
              · have hA2i : ¬ (s : Int) < (mid : Int) := by omega
                have HG2 := Lib.hid (show Seg a mid l1 l1 from Seg.refl _ _ _)
                have HZ2 := Lib.hid (show Srt key a mid l1 from (show s = mid by omega) ▸ HPA1.out)
                by_cases hB1 : mid < e
                · have hB1i : (mid : Int) < (e : Int) := by omega
                  by_cases hB2 : e < b
                  · have hB2i : (e : Int) < (b : Int) := by omega
                    have HB4 := Lib.hid (HIH.out mid e b l1 w7 (by omega) hB1 hB2 (by omega) HB7.out HR7.out (HPA4.out.congr (fun k hk _ => HG2.out.out k (.inr hk))) (HPA5.out.congr (fun k hk _ => HG2.out.out k (.inr (by omega)))) (HPA6.out.congr (fun k hk _ => HG2.out.out k (.inr hk))) (bound_perm HM.out (HG2.out.perm.trans HP1.out)))
                    go_wp2_with (go_at_call 151; refine HB4.out.mono ?_; rintro e9 w9 ⟨⟨v9, rfl⟩, l9, HG9, HZ9, HR9, HB9⟩; refine Halt.out ?_)
                    refine Halt.mk ?_
                    have HFIN := Lib.hid (merge_mid ⟨by omega, by omega⟩ ⟨hmid1, hmid2⟩ (by have := HL.out; omega) HS1.out HS2.out HCR.out (by first | exact .inl ⟨hmm, rfl, rfl⟩ | exact .inr ⟨by omega, rfl, rfl⟩) HMP.out HROT.out HP1.out HG2.out HZ2.out HG9.out HZ9.out)
                    go_wp2
                    go_end0
                    exact ⟨⟨_, rfl⟩, _, HFIN.out.1, HFIN.out.2, HR9.out, HB9.out⟩
                  · have hB2i : ¬ (e : Int) < (b : Int) := by omega
                    have HFIN := Lib.hid (merge_mid ⟨by omega, by omega⟩ ⟨hmid1, hmid2⟩ (by have := HL.out; omega) HS1.out HS2.out HCR.out (by first | exact .inl ⟨hmm, rfl, rfl⟩ | exact .inr ⟨by omega, rfl, rfl⟩) HMP.out HROT.out HP1.out HG2.out HZ2.out (Seg.refl mid b _) ((show Srt key mid b l1 from (show e = b by omega) ▸ HPA4.out).congr (fun k hk _ => HG2.out.out k (.inr hk))))
                    go_wp2
                    go_end0
                    exact ⟨⟨_, rfl⟩, _, HFIN.out.1, HFIN.out.2, HR7.out, HB7.out⟩
                · have hB1i : ¬ (mid : Int) < (e : Int) := by omega
                  have HFIN := Lib.hid (merge_mid ⟨by omega, by omega⟩ ⟨hmid1, hmid2⟩ (by have := HL.out; omega) HS1.out HS2.out HCR.out (by first | exact .inl ⟨hmm, rfl, rfl⟩ | exact .inr ⟨by omega, rfl, rfl⟩) HMP.out HROT.out HP1.out HG2.out HZ2.out (Seg.refl mid b _) ((show Srt key mid b l1 from (show e = mid by omega) ▸ HPA5.out).congr (fun k hk _ => HG2.out.out k (.inr hk))))
                  go_wp2
                  go_end0
                  exact ⟨⟨_, rfl⟩, _, HFIN.out.1, HFIN.out.2, HR7.out, HB7.out⟩
            · have hA1i : ¬ (a : Int) < (s : Int) := by omega
              have HG2 := Lib.hid (show Seg a mid l1 l1 from Seg.refl _ _ _)
              have HZ2 := Lib.hid (show Srt key a mid l1 from (show s = a by omega) ▸ HPA2.out)
              by_cases hB1 : mid < e
              · have hB1i : (mid : Int) < (e : Int) := by omega
                by_cases hB2 : e < b
                · have hB2i : (e : Int) < (b : Int) := by omega
                  have HB4 := Lib.hid (HIH.out mid e b l1 w7 (by omega) hB1 hB2 (by omega) HB7.out HR7.out (HPA4.out.congr (fun k hk _ => HG2.out.out k (.inr hk))) (HPA5.out.congr (fun k hk _ => HG2.out.out k (.inr (by omega)))) (HPA6.out.congr (fun k hk _ => HG2.out.out k (.inr hk))) (bound_perm HM.out (HG2.out.perm.trans HP1.out)))
                  go_wp2_with (go_at_call 151; refine HB4.out.mono ?_; rintro e9 w9 ⟨⟨v9, rfl⟩, l9, HG9, HZ9, HR9, HB9⟩; refine Halt.out ?_)
                  refine Halt.mk ?_
                  have HFIN := Lib.hid (merge_mid ⟨by omega, by omega⟩ ⟨hmid1, hmid2⟩ (by have := HL.out; omega) HS1.out HS2.out HCR.out (by first | exact .inl ⟨hmm, rfl, rfl⟩ | exact .inr ⟨by omega, rfl, rfl⟩) HMP.out HROT.out HP1.out HG2.out HZ2.out HG9.out HZ9.out)
                  go_wp2
                  go_end0
                  exact ⟨⟨_, rfl⟩, _, HFIN.out.1, HFIN.out.2, HR9.out, HB9.out⟩
                · have hB2i : ¬ (e : Int) < (b : Int) := by omega
                  have HFIN := Lib.hid (merge_mid ⟨by omega, by omega⟩ ⟨hmid1, hmid2⟩ (by have := HL.out; omega) HS1.out HS2.out HCR.out (by first | exact .inl ⟨hmm, rfl, rfl⟩ | exact .inr ⟨by omega, rfl, rfl⟩) HMP.out HROT.out HP1.out HG2.out HZ2.out (Seg.refl mid b _) ((show Srt key mid b l1 from (show e = b by omega) ▸ HPA4.out).congr (fun k hk _ => HG2.out.out k (.inr hk))))
                  go_wp2
                  go_end0
                  exact ⟨⟨_, rfl⟩, _, HFIN.out.1, HFIN.out.2, HR7.out, HB7.out⟩
              · have hB1i : ¬ (mid : Int) < (e : Int) := by omega
                have HFIN := Lib.hid (merge_mid ⟨by omega, by omega⟩ ⟨hmid1, hmid2⟩ (by have := HL.out; omega) HS1.out HS2.out HCR.out (by first | exact .inl ⟨hmm, rfl, rfl⟩ | exact .inr ⟨by omega, rfl, rfl⟩) HMP.out HROT.out HP1.out HG2.out HZ2.out (Seg.refl mid b _) ((show Srt key mid b l1 from (show e = mid by omega) ▸ HPA5.out).congr (fun k hk _ => HG2.out.out k (.inr hk))))
                go_wp2
                go_end0
                exact ⟨⟨_, rfl⟩, _, HFIN.out.1, HFIN.out.2, HR7.out, HB7.out⟩
          · have hT2i : ¬ (m : Int) < (e : Int) := by omega
            obtain ⟨l1, hl1⟩ : ∃ l1, l1 = l := ⟨l, rfl⟩
            have HROT := Lib.hid (show Rot s m (mid + m - s) l l1 from by rw [hl1]; exact Rot.none _ (.inr (by omega)) ⟨by omega, by omega⟩)
            have HP1 := Lib.hid (show l1.Perm l by rw [hl1])
            rw [← hl1] at HR
            clear hl1 hlt
            obtain ⟨pa1, pa2, pa3, pa4, pa5, pa6⟩ := rot_parts (mid := mid) ⟨by omega, by omega⟩ ⟨by omega, by omega, by omega, by omega⟩ HS1.out HS2.out HCR.out HROT.out
            have HPA1 := Lib.hid pa1
            have HPA2 := Lib.hid pa2
            have HPA3 := Lib.hid pa3
            have HPA4 := Lib.hid (show Srt key mid e l1 from HEE.out ▸ pa4)
            have HPA5 := Lib.hid (show Srt key e b l1 from HEE.out ▸ pa5)
            have HPA6 := Lib.hid (show Crs mid e b l1 from HEE.out ▸ pa6)
            clear pa1 pa2 pa3 pa4 pa5 pa6
            by_cases hA1 : a < s
            · have hA1i : (a : Int) < (s : Int) := by omega
              by_cases hA2 : s < mid
              · have hA2i : (s : Int) < (mid : Int) := by omega
                have HA4 := Lib.hid (HIH.out a s mid l1 wr (by omega) hA1 hA2 (by omega) HB.out HR.out HPA1.out HPA2.out HPA3.out (bound_perm HM.out HP1.out))
                go_wp2_with (go_at_call 151; refine HA4.out.mono ?_; rintro e8 w8 ⟨⟨v8, rfl⟩, l8, HG8, HZ8, HR8, HB8⟩; refine Halt.out ?_)
                refine Halt.mk ?_
                have HG2 := Lib.hid (show Seg a mid l1 l8 from HG8.out)
                have HZ2 := Lib.hid (show Srt key a mid l8 from HZ8.out)
                by_cases hB1 : mid < e
                · have hB1i : (mid : Int) < (e : Int) := by omega
                  by_cases hB2 : e < b
                  · have hB2i : (e : Int) < (b : Int) := by omega
                    have HB4 := Lib.hid (HIH.out mid e b l8 w8 (by omega) hB1 hB2 (by omega) HB8.out HR8.out (HPA4.out.congr (fun k hk _ => HG2.out.out k (.inr hk))) (HPA5.out.congr (fun k hk _ => HG2.out.out k (.inr (by omega)))) (HPA6.out.congr (fun k hk _ => HG2.out.out k (.inr hk))) (bound_perm HM.out (HG2.out.perm.trans HP1.out)))
                    go_wp2_with (go_at_call 151; refine HB4.out.mono ?_; rintro e9 w9 ⟨⟨v9, rfl⟩, l9, HG9, HZ9, HR9, HB9⟩; refine Halt.out ?_)
                    refine Halt.mk ?_
                    have HFIN := Lib.hid (merge_mid ⟨by omega, by omega⟩ ⟨hmid1, hmid2⟩ (by have := HL.out; omega) HS1.out HS2.out HCR.out (by first | exact .inl ⟨hmm, rfl, rfl⟩ | exact .inr ⟨by omega, rfl, rfl⟩) HMP.out HROT.out HP1.out HG2.out HZ2.out HG9.out HZ9.out)
                    go_wp2
                    go_end0
                    exact ⟨⟨_, rfl⟩, _, HFIN.out.1, HFIN.out.2, HR9.out, HB9.out⟩
                  · have hB2i : ¬ (e : Int) < (b : Int) := by omega
                    have HFIN := Lib.hid (merge_mid ⟨by omega, by omega⟩ ⟨hmid1, hmid2⟩ (by have := HL.out; omega) HS1.out HS2.out HCR.out (by first | exact .inl ⟨hmm, rfl, rfl⟩ | exact .inr ⟨by omega, rfl, rfl⟩) HMP.out HROT.out HP1.out HG2.out HZ2.out (Seg.refl mid b _) ((show Srt key mid b l1 from (show e = b by omega) ▸ HPA4.out).congr (fun k hk _ => HG2.out.out k (.inr hk))))
                    go_wp2
                    go_end0
                    exact ⟨⟨_, rfl⟩, _, HFIN.out.1, HFIN.out.2, HR8.out, HB8.out⟩
                · have hB1i : ¬ (mid : Int) < (e : Int) := by omega
                  have HFIN := Lib.hid (merge_mid ⟨by omega, by omega⟩ ⟨hmid1, hmid2⟩ (by have := HL.out; omega) HS1.out HS2.out HCR.out (by first | exact .inl ⟨hmm, rfl, rfl⟩ | exact .inr ⟨by omega, rfl, rfl⟩) HMP.out HROT.out HP1.out HG2.out HZ2.out (Seg.refl mid b _) ((show Srt key mid b l1 from (show e = mid by omega) ▸ HPA5.out).congr (fun k hk _ => HG2.out.out k (.inr hk))))
                  go_wp2
                  go_end0
                  exact ⟨⟨_, rfl⟩, _, HFIN.out.1, HFIN.out.2, HR8.out, HB8.out⟩
              · have hA2i : ¬ (s : Int) < (mid : Int) := by omega
                have HG2 := Lib.hid (show Seg a mid l1 l1 from Seg.refl _ _ _)
                have HZ2 := Lib.hid (show Srt key a mid l1 from (show s = mid by omega) ▸ HPA1.out)
                by_cases hB1 : mid < e
                · have hB1i : (mid : Int) < (e : Int) := by omega
                  by_cases hB2 : e < b
                  · have hB2i : (e : Int) < (b : Int) := by omega
                    have HB4 := Lib.hid (HIH.out mid e b l1 wr (by omega) hB1 hB2 (by omega) HB.out HR.out (HPA4.out.congr (fun k hk _ => HG2.out.out k (.inr hk))) (HPA5.out.congr (fun k hk _ => HG2.out.out k (.inr (by omega)))) (HPA6.out.congr (fun k hk _ => HG2.out.out k (.inr hk))) (bound_perm HM.out (HG2.out.perm.trans HP1.out)))
                    go_wp2_with (go_at_call 151; refine HB4.out.mono ?_; rintro e9 w9 ⟨⟨v9, rfl⟩, l9, HG9, HZ9, HR9, HB9⟩; refine Halt.out ?_)
                    refine Halt.mk ?_
                    have HFIN := Lib.hid (merge_mid ⟨by omega, by omega⟩ ⟨hmid1, hmid2⟩ (by have := HL.out; omega) HS1.out HS2.out HCR.out (by first | exact .inl ⟨hmm, rfl, rfl⟩ | exact .inr ⟨by omega, rfl, rfl⟩) HMP.out HROT.out HP1.out HG2.out HZ2.out HG9.out HZ9.out)
                    go_wp2
                    go_end0
                    exact ⟨⟨_, rfl⟩, _, HFIN.out.1, HFIN.out.2, HR9.out, HB9.out⟩
                  · have hB2i : ¬ (e : Int) < (b : Int) := by omega
                    have HFIN := Lib.hid (merge_mid ⟨by omega, by omega⟩ ⟨hmid1, hmid2⟩ (by have := HL.out; omega) HS1.out HS2.out HCR.out (by first | exact .inl ⟨hmm, rfl, rfl⟩ | exact .inr ⟨by omega, rfl, rfl⟩) HMP.out HROT.out HP1.out HG2.out HZ2.out (Seg.refl mid b _) ((show Srt key mid b l1 from (show e = b by omega) ▸ HPA4.out).congr (fun k hk _ => HG2.out.out k (.inr hk))))
                    go_wp2
                    go_end0
                    exact ⟨⟨_, rfl⟩, _, HFIN.out.1, HFIN.out.2, HR.out, HB.out⟩
                · have hB1i : ¬ (mid : Int) < (e : Int) := by omega
                  have HFIN := Lib.hid (merge_mid ⟨by omega, by omega⟩ ⟨hmid1, hmid2⟩ (by have := HL.out; omega) HS1.out HS2.out HCR.out (by first | exact .inl ⟨hmm, rfl, rfl⟩ | exact .inr ⟨by omega, rfl, rfl⟩) HMP.out HROT.out HP1.out HG2.out HZ2.out (Seg.refl mid b _) ((show Srt key mid b l1 from (show e = mid by omega) ▸ HPA5.out).congr (fun k hk _ => HG2.out.out k (.inr hk))))
                  go_wp2
                  go_end0
                  exact ⟨⟨_, rfl⟩, _, HFIN.out.1, HFIN.out.2, HR.out, HB.out⟩
            · have hA1i : ¬ (a : Int) < (s : Int) := by omega
              have HG2 := Lib.hid (show Seg a mid l1 l1 from Seg.refl _ _ _)
              have HZ2 := Lib.hid (show Srt key a mid l1 from (show s = a by omega) ▸ HPA2.out)
              by_cases hB1 : mid < e
              · have hB1i : (mid : Int) < (e : Int) := by omega
                by_cases hB2 : e < b
                · have hB2i : (e : Int) < (b : Int) := by omega
                  have HB4 := Lib.hid (HIH.out mid e b l1 wr (by omega) hB1 hB2 (by omega) HB.out HR.out (HPA4.out.congr (fun k hk _ => HG2.out.out k (.inr hk))) (HPA5.out.congr (fun k hk _ => HG2.out.out k (.inr (by omega)))) (HPA6.out.congr (fun k hk _ => HG2.out.out k (.inr hk))) (bound_perm HM.out (HG2.out.perm.trans HP1.out)))
                  go_wp2_with (go_at_call 151; refine HB4.out.mono ?_; rintro e9 w9 ⟨⟨v9, rfl⟩, l9, HG9, HZ9, HR9, HB9⟩; refine Halt.out ?_)
                  refine Halt.mk ?_
                  have HFIN := Lib.hid (merge_mid ⟨by omega, by omega⟩ ⟨hmid1, hmid2⟩ (by have := HL.out; omega) HS1.out HS2.out HCR.out (by first | exact .inl ⟨hmm, rfl, rfl⟩ | exact .inr ⟨by omega, rfl, rfl⟩) HMP.out HROT.out HP1.out HG2.out HZ2.out HG9.out HZ9.out)
                  go_wp2
                  go_end0
                  exact ⟨⟨_, rfl⟩, _, HFIN.out.1, HFIN.out.2, HR9.out, HB9.out⟩
                · have hB2i : ¬ (e : Int) < (b : Int) := by omega
                  have HFIN := Lib.hid (merge_mid ⟨by omega, by omega⟩ ⟨hmid1, hmid2⟩ (by have := HL.out; omega) HS1.out HS2.out HCR.out (by first | exact .inl ⟨hmm, rfl, rfl⟩ | exact .inr ⟨by omega, rfl, rfl⟩) HMP.out HROT.out HP1.out HG2.out HZ2.out (Seg.refl mid b _) ((show Srt key mid b l1 from (show e = b by omega) ▸ HPA4.out).congr (fun k hk _ => HG2.out.out k (.inr hk))))
                  go_wp2
                  go_end0
                  exact ⟨⟨_, rfl⟩, _, HFIN.out.1, HFIN.out.2, HR.out, HB.out⟩
              · have hB1i : ¬ (mid : Int) < (e : Int) := by omega
                have HFIN := Lib.hid (merge_mid ⟨by omega, by omega⟩ ⟨hmid1, hmid2⟩ (by have := HL.out; omega) HS1.out HS2.out HCR.out (by first | exact .inl ⟨hmm, rfl, rfl⟩ | exact .inr ⟨by omega, rfl, rfl⟩) HMP.out HROT.out HP1.out HG2.out HZ2.out (Seg.refl mid b _) ((show Srt key mid b l1 from (show e = mid by omega) ▸ HPA5.out).congr (fun k hk _ => HG2.out.out k (.inr hk))))
                go_wp2
                go_end0
                exact ⟨⟨_, rfl⟩, _, HFIN.out.1, HFIN.out.2, HR.out, HB.out⟩
        · have hT1i : ¬ (s : Int) < (m : Int) := by omega
          obtain ⟨l1, hl1⟩ : ∃ l1, l1 = l := ⟨l, rfl⟩
          have HROT := Lib.hid (show Rot s m (mid + m - s) l l1 from by rw [hl1]; exact Rot.none _ (.inl (by omega)) ⟨by omega, by omega⟩)
          have HP1 := Lib.hid (show l1.Perm l by rw [hl1])
          rw [← hl1] at HR
          clear hl1 hlt
          obtain ⟨pa1, pa2, pa3, pa4, pa5, pa6⟩ := rot_parts (mid := mid) ⟨by omega, by omega⟩ ⟨by omega, by omega, by omega, by omega⟩ HS1.out HS2.out HCR.out HROT.out
          have HPA1 := Lib.hid pa1
          have HPA2 := Lib.hid pa2
          have HPA3 := Lib.hid pa3
          have HPA4 := Lib.hid (show Srt key mid e l1 from HEE.out ▸ pa4)
          have HPA5 := Lib.hid (show Srt key e b l1 from HEE.out ▸ pa5)
          have HPA6 := Lib.hid (show Crs mid e b l1 from HEE.out ▸ pa6)
          clear pa1 pa2 pa3 pa4 pa5 pa6
          by_cases hA1 : a < s
          · have hA1i : (a : Int) < (s : Int) := by omega
            by_cases hA2 : s < mid
            · have hA2i : (s : Int) < (mid : Int) := by omega
              have HA4 := Lib.hid (HIH.out a s mid l1 wr (by omega) hA1 hA2 (by omega) HB.out HR.out HPA1.out HPA2.out HPA3.out (bound_perm HM.out HP1.out))
              go_wp2_with (go_at_call 151; refine HA4.out.mono ?_; rintro e8 w8 ⟨⟨v8, rfl⟩, l8, HG8, HZ8, HR8, HB8⟩; refine Halt.out ?_)
              refine Halt.mk ?_
              have HG2 := Lib.hid (show Seg a mid l1 l8 from HG8.out)
              have HZ2 := Lib.hid (show Srt key a mid l8 from HZ8.out)
              by_cases hB1 : mid < e
              · have hB1i : (mid : Int) < (e : Int) := by omega
                by_cases hB2 : e < b
                · have hB2i : (e : Int) < (b : Int) := by omega
                  have HB4 := Lib.hid (HIH.out mid e b l8 w8 (by omega) hB1 hB2 (by omega) HB8.out HR8.out (HPA4.out.congr (fun k hk _ => HG2.out.out k (.inr hk))) (HPA5.out.congr (fun k hk _ => HG2.out.out k (.inr (by omega)))) (HPA6.out.congr (fun k hk _ => HG2.out.out k (.inr hk))) (bound_perm HM.out (HG2.out.perm.trans HP1.out)))
                  go_wp2_with (go_at_call 151; refine HB4.out.mono ?_; rintro e9 w9 ⟨⟨v9, rfl⟩, l9, HG9, HZ9, HR9, HB9⟩; refine Halt.out ?_)
                  refine Halt.mk ?_
                  have HFIN := Lib.hid (merge_mid ⟨by omega, by omega⟩ ⟨hmid1, hmid2⟩ (by have := HL.out; omega) HS1.out HS2.out HCR.out (by first | exact .inl ⟨hmm, rfl, rfl⟩ | exact .inr ⟨by omega, rfl, rfl⟩) HMP.out HROT.out HP1.out HG2.out HZ2.out HG9.out HZ9.out)
                  go_wp2
                  go_end0
                  exact ⟨⟨_, rfl⟩, _, HFIN.out.1, HFIN.out.2, HR9.out, HB9.out⟩
                · have hB2i : ¬ (e : Int) < (b : Int) := by omega
                  have HFIN := Lib.hid (merge_mid ⟨by omega, by omega⟩ ⟨hmid1, hmid2⟩ (by have := HL.out; omega) HS1.out HS2.out HCR.out (by first | exact .inl ⟨hmm, rfl, rfl⟩ | exact .inr ⟨by omega, rfl, rfl⟩) HMP.out HROT.out HP1.out HG2.out HZ2.out (Seg.refl mid b _) ((show Srt key mid b l1 from (show e = b by omega) ▸ HPA4.out).congr (fun k hk _ => HG2.out.out k (.inr hk))))
                  go_wp2
                  go_end0
                  exact ⟨⟨_, rfl⟩, _, HFIN.out.1, HFIN.out.2, HR8.out, HB8.out⟩
              · have hB1i : ¬ (mid : Int) < (e : Int) := by omega
                have HFIN := Lib.hid (merge_mid ⟨by omega, by omega⟩ ⟨hmid1, hmid2⟩ (by have := HL.out; omega) HS1.out HS2.out HCR.out (by first | exact .inl ⟨hmm, rfl, rfl⟩ | exact .inr ⟨by omega, rfl, rfl⟩) HMP.out HROT.out HP1.out HG2.out HZ2.out (Seg.refl mid b _) ((show Srt key mid b l1 from (show e = mid by omega) ▸ HPA5.out).congr (fun k hk _ => HG2.out.out k (.inr hk))))
                go_wp2
                go_end0
                exact ⟨⟨_, rfl⟩, _, HFIN.out.1, HFIN.out.2, HR8.out, HB8.out⟩
            · have hA2i : ¬ (s : Int) < (mid : Int) := by omega
              have HG2 := Lib.hid (show Seg a mid l1 l1 from Seg.refl _ _ _)
              have HZ2 := Lib.hid (show Srt key a mid l1 from (show s = mid by omega) ▸ HPA1.out)
              by_cases hB1 : mid < e
              · have hB1i : (mid : Int) < (e : Int) := by omega
                by_cases hB2 : e < b
                · have hB2i : (e : Int) < (b : Int) := by omega
                  have HB4 := Lib.hid (HIH.out mid e b l1 wr (by omega) hB1 hB2 (by omega) HB.out HR.out (HPA4.out.congr (fun k hk _ => HG2.out.out k (.inr hk))) (HPA5.out.congr (fun k hk _ => HG2.out.out k (.inr (by omega)))) (HPA6.out.congr (fun k hk _ => HG2.out.out k (.inr hk))) (bound_perm HM.out (HG2.out.perm.trans HP1.out)))
                  go_wp2_with (go_at_call 151; refine HB4.out.mono ?_; rintro e9 w9 ⟨⟨v9, rfl⟩, l9, HG9, HZ9, HR9, HB9⟩; refine Halt.out ?_)
                  refine Halt.mk ?_
                  have HFIN := Lib.hid (merge_mid ⟨by omega, by omega⟩ ⟨hmid1, hmid2⟩ (by have := HL.out; omega) HS1.out HS2.out HCR.out (by first | exact .inl ⟨hmm, rfl, rfl⟩ | exact .inr ⟨by omega, rfl, rfl⟩) HMP.out HROT.out HP1.out HG2.out HZ2.out HG9.out HZ9.out)
                  go_wp2
                  go_end0
                  exact ⟨⟨_, rfl⟩, _, HFIN.out.1, HFIN.out.2, HR9.out, HB9.out⟩
                · have hB2i : ¬ (e : Int) < (b : Int) := by omega
                  have HFIN := Lib.hid (merge_mid ⟨by omega, by omega⟩ ⟨hmid1, hmid2⟩ (by have := HL.out; omega) HS1.out HS2.out HCR.out (by first | exact .inl ⟨hmm, rfl, rfl⟩ | exact .inr ⟨by omega, rfl, rfl⟩) HMP.out HROT.out HP1.out HG2.out HZ2.out (Seg.refl mid b _) ((show Srt key mid b l1 from (show e = b by omega) ▸ HPA4.out).congr (fun k hk _ => HG2.out.out k (.inr hk))))
                  go_wp2
                  go_end0
                  exact ⟨⟨_, rfl⟩, _, HFIN.out.1, HFIN.out.2, HR.out, HB.out⟩
              · have hB1i : ¬ (mid : Int) < (e : Int) := by omega
                have HFIN := Lib.hid (merge_mid ⟨by omega, by omega⟩ ⟨hmid1, hmid2⟩ (by have := HL.out; omega) HS1.out HS2.out HCR.out (by first | exact .inl ⟨hmm, rfl, rfl⟩ | exact .inr ⟨by omega, rfl, rfl⟩) HMP.out HROT.out HP1.out HG2.out HZ2.out (Seg.refl mid b _) ((show Srt key mid b l1 from (show e = mid by omega) ▸ HPA5.out).congr (fun k hk _ => HG2.out.out k (.inr hk))))
                go_wp2
                go_end0
                exact ⟨⟨_, rfl⟩, _, HFIN.out.1, HFIN.out.2, HR.out, HB.out⟩
          · have hA1i : ¬ (a : Int) < (s : Int) := by omega
            have HG2 := Lib.hid (show Seg a mid l1 l1 from Seg.refl _ _ _)
            have HZ2 := Lib.hid (show Srt key a mid l1 from (show s = a by omega) ▸ HPA2.out)
            by_cases hB1 : mid < e
            · have hB1i : (mid : Int) < (e : Int) := by omega
              by_cases hB2 : e < b
              · have hB2i : (e : Int) < (b : Int) := by omega
                have HB4 := Lib.hid (HIH.out mid e b l1 wr (by omega) hB1 hB2 (by omega) HB.out HR.out (HPA4.out.congr (fun k hk _ => HG2.out.out k (.inr hk))) (HPA5.out.congr (fun k hk _ => HG2.out.out k (.inr (by omega)))) (HPA6.out.congr (fun k hk _ => HG2.out.out k (.inr hk))) (bound_perm HM.out (HG2.out.perm.trans HP1.out)))
                go_wp2_with (go_at_call 151; refine HB4.out.mono ?_; rintro e9 w9 ⟨⟨v9, rfl⟩, l9, HG9, HZ9, HR9, HB9⟩; refine Halt.out ?_)
                refine Halt.mk ?_
                have HFIN := Lib.hid (merge_mid ⟨by omega, by omega⟩ ⟨hmid1, hmid2⟩ (by have := HL.out; omega) HS1.out HS2.out HCR.out (by first | exact .inl ⟨hmm, rfl, rfl⟩ | exact .inr ⟨by omega, rfl, rfl⟩) HMP.out HROT.out HP1.out HG2.out HZ2.out HG9.out HZ9.out)
                go_wp2
                go_end0
                exact ⟨⟨_, rfl⟩, _, HFIN.out.1, HFIN.out.2, HR9.out, HB9.out⟩
              · have hB2i : ¬ (e : Int) < (b : Int) := by omega
                have HFIN := Lib.hid (merge_mid ⟨by omega, by omega⟩ ⟨hmid1, hmid2⟩ (by have := HL.out; omega) HS1.out HS2.out HCR.out (by first | exact .inl ⟨hmm, rfl, rfl⟩ | exact .inr ⟨by omega, rfl, rfl⟩) HMP.out HROT.out HP1.out HG2.out HZ2.out (Seg.refl mid b _) ((show Srt key mid b l1 from (show e = b by omega) ▸ HPA4.out).congr (fun k hk _ => HG2.out.out k (.inr hk))))
                go_wp2
                go_end0
                exact ⟨⟨_, rfl⟩, _, HFIN.out.1, HFIN.out.2, HR.out, HB.out⟩
            · have hB1i : ¬ (mid : Int) < (e : Int) := by omega
              have HFIN := Lib.hid (merge_mid ⟨by omega, by omega⟩ ⟨hmid1, hmid2⟩ (by have := HL.out; omega) HS1.out HS2.out HCR.out (by first | exact .inl ⟨hmm, rfl, rfl⟩ | exact .inr ⟨by omega, rfl, rfl⟩) HMP.out HROT.out HP1.out HG2.out HZ2.out (Seg.refl mid b _) ((show Srt key mid b l1 from (show e = mid by omega) ▸ HPA5.out).congr (fun k hk _ => HG2.out.out k (.inr hk))))
              go_wp2
              go_end0
              exact ⟨⟨_, rfl⟩, _, HFIN.out.1, HFIN.out.2, HR.out, HB.out⟩

theorem sym_any (key : Int → Int) (M F : Nat) (cb : Array Value) (base g N : Nat) (w0 : World) (hen : Enters Tryd.prog F) (hcmp : CmpOn F cb key M base w0) (hN : N ≤ 1000000) : ∀ d, SymOK key M F cb base g N d w0 := by
  intro d
  induction d with
  | zero => intro a m b l w hd ham hmb; omega
  | succ d ih =>
    intro a m b l w hd ham hmb hbN hbw hrow h1 h2 hc hM
    by_cases e1 : m = a + 1
    · subst e1
      exact sym_left key M F cb base g N a b l w0 w hen hcmp hN hmb hbN hbw hrow h2 hc hM
    · by_cases e2 : b = m + 1
      · subst e2
        exact sym_right key M F cb base g N a m l w0 w hen hcmp hN (by omega) hbN hbw hrow h1 hc hM
      · exact sym_step key M F cb base g N d a m b l w0 w hen hcmp hN ih hd (by omega) (by omega) hbN hbw hrow h1 h2 hc hM

end Go.Proofs.YtfjplphdkfiljaaDoor
