/-
  Walks: the chapter's examples, and the law of routes.
-/
import Derived.Test.YtelcmkccfjdmjaaDoorProg
import Derived.Test.YtelcmkccfjdmjaaDoorRpM
import Derived.Test.YtelcmkccfjdmjaaDoorRpD
import Derived.Test.YtelcmkccfjdmjaaDoorRefCmp
import Derived.Test.YtelcmkccfjdmjaaDoorSame
namespace Go.Proofs.YtelcmkccfjdmjaaDoor
open Go Go.Proofs Go.RowKit Go.Shelf Go.Sort

/-- ok ROUTE 5:0.3 -/
def exT : ByteArray := ⟨#[111, 107, 32, 82, 79, 85, 84, 69, 32, 53, 58, 48, 46, 51]⟩
def exN : ByteArray := ⟨#[82, 79, 85, 84, 69]⟩
theorem parse_ex : parseR exT = ({ rep0 with name := exN, rts := [⟨[0, 3], 5⟩] }, 0) := by decide +kernel
theorem print_ex : printR { rep0 with f := 9 } = ⟨#[101, 114, 114, 111, 114, 32, 110, 111, 112, 97, 116, 104]⟩ := by decide +kernel
theorem parseEx_any (w : World) : Calls Tryd.prog 33 #[.string exT] w fun e w' => ∃ an cn b o cr aw cw ao co, e = .returned (.tuple #[.agg #[.int .i64 0, .string exN, .slice an 0 cn, .slice (some ⟨b, o, none⟩) 1 cr, .slice aw 0 cw], .int .i64 0]) ∧ w'.cell? ⟨b, o, none⟩ = some (.slice ao 2 co) ∧ w'.cell? ⟨b, o + 1, none⟩ = some (.int .u64 5) ∧ Cel w' ao ([0, 3].map encI) ∧ Below w.heap.size w w' := by
  refine (ReplyParse_any exT w (by decide)).mono ?_
  rintro e w' ⟨v, rfl, hv, hb⟩
  rw [parse_ex] at hv
  obtain ⟨an, cn, ar, cr, aw, cw, ts, rfl, -, hr, -, ht, hc⟩ := hv
  obtain ⟨t, rfl⟩ : ∃ t, ts = [t] := List.length_eq_one_iff.1 (by simpa using congrArg List.length ht)
  have e : t.r = ⟨[0, 3], 5⟩ := by simpa using ht
  obtain ⟨b, o, ha, h0⟩ := hr 0 (.slice t.ao 2 t.cap) (by simp [flatR, encC, e])
  obtain ⟨b', o', ha', h1⟩ := hr 1 (.int .u64 5) (by simp [flatR, encC, e])
  subst ha
  cases ha'
  have h2 := hc t (by simp)
  rw [e] at h2
  rw [parse_ex]
  exact ⟨an, cn, b, o, cr, aw, cw, t.ao, t.cap, rfl, h0, h1, h2, hb⟩

set_option maxRecDepth 100000 in
set_option maxHeartbeats 2000000 in
theorem alive41_any (w : World) : Calls Tryd.prog 13 #[] w fun e w' => e = .returned (.bool true) ∧ Below w.heap.size w w' := by
  have HPS := Lib.hid (fun W => parseEx_any W)
  have HER := Lib.hid (fun W => ReplyError_any 9 W)
  have HPR := Lib.hid (fun v W h => PrintF_any { rep0 with f := 9 } v W h (by decide) ⟨by decide, by decide, by decide⟩)
  rw [print_ex] at HPR
  rw [show (if (9 : Int) ≠ 0 ∧ isF 9 = true then (9 : Int) else 1) = 9 from by decide] at HER
  unfold exT at HPS
  generalize exN = nm at *
  go_enter Tryd.func13, Tryd.ntmps13
  go_wp2_with (first
    | (go_at_call 33; refine (HPS.out _).mono ?_; rintro e w1 ⟨an, cn, b, o, cr, aw, cw, ao, co, rfl, h0, h1, hc1, hb1⟩; (have HB1 := Lib.hid hb1; have HC1 := Lib.hid hc1; have k0 := fun O => cell_later (Below.of_al w1 O) h0; have k1 := fun O => cell_later (Below.of_al w1 O) h1; clear hb1 hc1))
    | (go_at_call 19; refine (sameInts_any ao (some ⟨w1.heap.size + 1, 0, none⟩) co 2 [0, 3] [0, 3] _ (by decide) (by decide) (HC1.out.go ((Below.of_al _ _).al _)) (cel_at (by simp) rfl)).mono ?_; rintro e w2 ⟨rfl, n2, rfl⟩; rw [decide_eq_true (rfl : ([0, 3] : List Int) = [0, 3])])
    | (go_at_call 35; refine (HER.out _).mono ?_; rintro e w3 ⟨⟨v3, rfl, hv3⟩, hb3⟩)
    | (go_at_call 34; refine (HPR.out v3 _ hv3).mono ?_; rintro e w4 ⟨rfl, hb4⟩))
  go_ret
  exact ⟨rfl, ((((HB1.out.al _).al _).dr n2).st hb3).st hb4⟩

theorem parseRt_len (s : ByteArray) : (parseRt s).1.es.length ≤ s.size + 1 := by
  unfold parseRt
  split
  · simp [rt0]
  · unfold cutRt
    split
    · simp [rt0]
    · split
      · simp
      · split
        · simp [rt0]
        · have h := @partsS_count 46 (s.extract ((Lib.indexByte s.data.toList 58).toNat + 1) s.size)
          rw [ByteArray.size_extract] at h
          simp only [valP, List.length_map]
          omega
theorem lexI_self : ∀ l : List Int, lexI l l = 0
  | [] => rfl
  | x :: l => by
    have := lexI_self l
    simp [lexI, cmpI, this]
theorem cmpR_self (a : Int) (l : List Int) : cmpR a l a l = 0 := by
  unfold cmpR
  rw [lexI_self, cmpI_eq rfl]
  rfl

set_option maxRecDepth 100000 in
set_option maxHeartbeats 8000000 in
theorem ReplyRoutes_any (r : RtD) (s : ByteArray) (ao : Option Addr) (cap : Nat) (w : World) (h0 : 0 ≤ r.w ∧ r.w < 18446744073709551616) (h1 : ∀ e ∈ r.es, -9223372036854775808 ≤ e ∧ e ≤ 9223372036854775807) (hl : r.es.length ≤ 9223372036854775807) (hs : s.size ≤ 140737488355328) (hc : Cel w ao (r.es.map encI)) (hp : Pow10 w) :
    Calls Tryd.prog 4 #[.agg #[.slice ao r.es.length cap, .int .u64 r.w], .string s] w fun e w' => e = .returned (.bool true) ∧ Below w.heap.size w w' := by
  have HC := Lib.hid hc
  have HT := Lib.hid hp
  have HA := Lib.hid (fun W => alive41_any W)
  clear hc hp
  by_cases hbig : r.es.length > 60 ∨ s.size > 300
  · by_cases hbe : r.es.length > 60
    · have hb2 : (60 : Int) < (r.es.length : Int) := by omega
      clear hbig
      go_enter Tryd.func4, Tryd.ntmps4
      go_wp2_with (go_at_call 13; refine (HA.out _).mono ?_; rintro e w1 ⟨rfl, hb1⟩)
      go_ret
      exact ⟨rfl, (Below.of_al _ _).st hb1⟩
    · have hb2 : ¬ (60 : Int) < (r.es.length : Int) := by omega
      have hb3 : (300 : Int) < (s.size : Int) := by omega
      clear hbig
      go_enter Tryd.func4, Tryd.ntmps4
      go_wp2_with (go_at_call 13; refine (HA.out _).mono ?_; rintro e w1 ⟨rfl, hb1⟩)
      go_ret
      exact ⟨rfl, (Below.of_al _ _).st hb1⟩
  · have hb2 : ¬ (60 : Int) < (r.es.length : Int) := by omega
    have hb3 : ¬ (300 : Int) < (s.size : Int) := by omega
    have H1 := Lib.hid (fun W => ParseRoute_any s W (by omega))
    have H2 := Lib.hid (fun W => refParseRoute_any s W (by omega))
    have hty : tyRt r := ⟨h0.1, h0.2, h1, by omega⟩
    have H3 := Lib.hid (fun W h h' => Route_any r ao cap W hty h h')
    have H4 := Lib.hid (fun W h => refRoute_any r ao cap W hty h)
    have hql := parseRt_len s
    generalize parseRt s = q at *
    obtain ⟨⟨qe, qw⟩, qb⟩ := q
    simp only at hql
    generalize routeT r = rt at *
    clear hbig hl hty
    unfold PRPost at H1 H2
    simp only at H1 H2
    go_enter Tryd.func4, Tryd.ntmps4
    go_wp2_with (first
      | (go_at_call 14; refine (H1.out _).mono ?_; rintro e w1 ⟨a1, c1, rfl, hc1, hb1, -⟩; (have HC1 := Lib.hid hc1; have HB1 := Lib.hid ((Below.of_al _ _).st hb1); have k0 := P2.go (P2.new w 44 (.slice ao r.es.length cap) (.int .u64 r.w)) hb1; clear hc1 hb1))
      | (go_at_call 15; refine (H2.out _).mono ?_; rintro e w2 ⟨a2, c2, rfl, hc2, hb2, -⟩; (have HC2 := Lib.hid hc2; have HD2 := Lib.hid (HC1.out.go ((Below.of_al _ _).st hb2)); have HB2 := Lib.hid ((HB1.out.al _).st hb2); have k1 := P2.go (P2.new w1 44 (.slice a1 qe.length c1) (.int .u64 qw)) hb2; have k2 := P2.go k0 ((Below.of_al _ _).st hb2); clear hc2 hb2)))
    obtain ⟨W, hW⟩ : ∃ W, W = w2.alloc (Obj.cells #[.slice a2 qe.length c2, .int .u64 qw] 44) := ⟨_, rfl⟩
    obtain ⟨x0, x1, -⟩ : P2 W w.heap.size (.slice ao r.es.length cap) (.int .u64 r.w) := by rw [hW]; exact k2.go (Below.of_al _ _)
    obtain ⟨y0, y1, -⟩ : P2 W w1.heap.size (.slice a1 qe.length c1) (.int .u64 qw) := by rw [hW]; exact k1.go (Below.of_al _ _)
    obtain ⟨z0, z1, -⟩ : P2 W w2.heap.size (.slice a2 qe.length c2) (.int .u64 qw) := by rw [hW]; exact P2.new _ _ _ _
    have HW := Lib.hid (show Below w.heap.size w W by rw [hW]; exact HB2.out.al _)
    have HC3 := Lib.hid (show Cel W a2 (qe.map encI) by rw [hW]; exact HC2.out.go (Below.of_al _ _))
    have HD3 := Lib.hid (show Cel W a1 (qe.map encI) by rw [hW]; exact HD2.out.go (Below.of_al _ _))
    rw [← hW]
    generalize w2.heap.size = B2 at *
    generalize w1.heap.size = B1 at *
    clear hW k0 k1 k2 HB2 HC2 HD2 HB1 HC1 H1 H2
    have HCM := Lib.hid (fun W h1 h2 => (by
      have h := refCmp_any a1 a2 c1 c2 qe qe qw qw W (by omega) (by omega) h1 h2
      rw [cmpR_self] at h
      exact h : Calls Tryd.prog 18 #[.agg #[.slice a1 qe.length c1, .int .u64 qw], .agg #[.slice a2 qe.length c2, .int .u64 qw]] W fun e w' => e = .returned (.int .i64 0) ∧ Below W.heap.size W w'))
    have X0 := fun p => cell_ext p x0
    have X1 := fun p => cell_ext p x1
    have Y0 := fun p => cell_ext p y0
    have Y1 := fun p => cell_ext p y1
    have Z0 := fun p => cell_ext p z0
    have Z1 := fun p => cell_ext p z1
    have XC := Lib.hid (fun p => HC.out.go (HW.out.st (below_ext W p)))
    have XT := Lib.hid (fun p => tabIs_go HT.out (HW.out.st (below_ext W p)))
    have XD := Lib.hid (fun p => HC3.out.go (below_ext W p))
    have XE := Lib.hid (fun p => HD3.out.go (below_ext W p))
    refine wp_region_ext (by kernel_rfl) (by kernel_rfl) ?_
    repeat (go_big_quiet_step ((first
      | (go_at_call 16; exact Calls.ext_of (H3.out _ (XC.out _) (XT.out _)))
      | (go_at_call 17; exact Calls.ext_of (H4.out _ (XC.out _)))
      | (go_at_call 18; exact Calls.ext_of (HCM.out _ (XE.out _) (XD.out _)))
      | (go_at_call 13; exact Calls.ext_of (HA.out _)))))
    refine wpQuiet_nil ?_
    rintro _ ⟨p1, rfl⟩
    have HB1 := Lib.hid (below_ext W p1)
    generalize ext W p1 = w1 at HB1 ⊢
    go_wp2
    go_ret
    exact ⟨by first | rfl | simp, HW.out.st HB1.out⟩

end Go.Proofs.YtelcmkccfjdmjaaDoor
