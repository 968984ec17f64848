/-
  The walk of the reference's Shared.
-/
import Derived.Test.YtfjplphdkfiljaaProg
import Derived.Test.YtfjplphdkfiljaaShared
namespace Go.Proofs.Ytfjplphdkfiljaa
open Go.Proofs Go.RowKit Go.Shelf Go.Maps

set_option maxRecDepth 100000 in
set_option maxHeartbeats 2000000 in
theorem refShared_any (g : GD) (ao bo co : Option Addr) (cap cb cc : Nat) (a b : List Int) (w : World) (hl : g.es.length ≤ 9223372036854775807) (hla : a.length ≤ 1048576) (hlb : b.length ≤ 1048576) (hcb : a.length ≤ cb)
    (hc : Cel w ao (flat g.es)) (hd : Cel w bo (a.map encI)) (he : Cel w co (b.map encI)) :
    Calls Try.prog 41 #[.agg #[.int .i64 g.n, .slice ao g.es.length cap], .slice bo a.length cb, .slice co b.length cc] w fun e w' => e = .returned (.int .u64 (sharedG g a b)) ∧ Below w.heap.size w w' := by
  have HC := Lib.hid hc
  have HD := Lib.hid hd
  have HE := Lib.hid he
  clear hc hd he
  have X1 := Lib.hid (fun W h1 h2 => refedges_any g ao bo cap cb a W hl (by omega) h1 h2)
  have X2 := Lib.hid (fun W h1 h2 => refedges_any g ao co cap cc b W hl (by omega) h1 h2)
  cases q1 : edgesB g a with
  | false =>
    have HR := Lib.hid (show sharedG g a b = 0 by unfold sharedG; rw [q1]; rfl)
    rw [q1] at X1
    clear q1
    generalize sharedG g a b = r at *
    go_enter Try.func41, Try.ntmps41
    go_wp2_with (go_at_call 58; refine (X1.out _ (HC.out.go (by repeat (first | exact Below.refl _ _ | refine Below.al ?_ _ | refine Below.dr ?_ _ | refine Below.drew ?_ | assumption | (refine Below.st ?_ (by assumption))))) (HD.out.go (by repeat (first | exact Below.refl _ _ | refine Below.al ?_ _ | refine Below.dr ?_ _ | refine Below.drew ?_ | assumption | (refine Below.st ?_ (by assumption)))))).mono ?_; rintro e w1 ⟨rfl, hb1⟩)
    go_ret
    exact ⟨by rw [HR.out]; rfl, by repeat (first | exact Below.refl _ _ | refine Below.al ?_ _ | refine Below.dr ?_ _ | refine Below.drew ?_ | assumption | (refine Below.st ?_ (by assumption)))⟩
  | true =>
    cases q2 : edgesB g b with
    | false =>
      have HR := Lib.hid (show sharedG g a b = 0 by unfold sharedG; rw [q1, q2]; rfl)
      rw [q1] at X1
      rw [q2] at X2
      clear q1 q2
      generalize sharedG g a b = r at *
      go_enter Try.func41, Try.ntmps41
      go_wp2_with fail
      obtain ⟨W, hW, c0, c1, hsW⟩ : ∃ W, W = w.alloc (Obj.cells #[.int .i64 g.n, .slice ao g.es.length cap] 38) ∧ W.cell? ⟨w.heap.size, 0, none⟩ = some (.int .i64 g.n) ∧ W.cell? ⟨w.heap.size, 1, none⟩ = some (.slice ao g.es.length cap) ∧ w.heap.size < W.heap.size := ⟨_, rfl, by go_simp, by go_simp, by simp⟩
      rw [← hW]
      have HW := Lib.hid (show Below w.heap.size w W by rw [hW]; repeat (first | exact Below.refl _ _ | refine Below.al ?_ _ | refine Below.dr ?_ _ | refine Below.drew ?_ | assumption | (refine Below.st ?_ (by assumption))))
      clear hW
      refine (X1.out _ (HC.out.go HW.out) (HD.out.go HW.out)).mono ?_
      rintro e w1 ⟨rfl, hb1⟩
      have m0 := cell_later hb1 c0
      have m1 := cell_later hb1 c1
      have HW1 := Lib.hid (HW.out.st hb1)
      clear c0 c1 hb1 hsW HW
      go_wp2_with fail
      refine (X2.out _ (HC.out.go HW1.out) (HE.out.go HW1.out)).mono ?_
      rintro e w2 ⟨rfl, hb2⟩
      go_wp2
      go_ret
      exact ⟨by rw [HR.out]; rfl, HW1.out.st hb2⟩
    | true =>
      have HR := Lib.hid (show sharedG g a b = shF g.es a b by unfold sharedG; rw [q1, q2]; exact shF_comm _ _ _)
      have HM := Lib.hid (fun e he => edgesB_mem q1 (e := e) he)
      have HWT := Lib.hid (fun e he => wt_bd q1 (e := e) he)
      have HS := Lib.hid (fun P M => shF_bd (edgesB_right q1) P M)
      rw [q1] at X1
      rw [q2] at X2
      clear q1 q2
      generalize sharedG g a b = r at *
      go_enter Try.func41, Try.ntmps41
      go_wp2_with fail
      obtain ⟨W, hW, c0, c1, hsW⟩ : ∃ W, W = w.alloc (Obj.cells #[.int .i64 g.n, .slice ao g.es.length cap] 38) ∧ W.cell? ⟨w.heap.size, 0, none⟩ = some (.int .i64 g.n) ∧ W.cell? ⟨w.heap.size, 1, none⟩ = some (.slice ao g.es.length cap) ∧ w.heap.size < W.heap.size := ⟨_, rfl, by go_simp, by go_simp, by simp⟩
      rw [← hW]
      have HW := Lib.hid (show Below w.heap.size w W by rw [hW]; repeat (first | exact Below.refl _ _ | refine Below.al ?_ _ | refine Below.dr ?_ _ | refine Below.drew ?_ | assumption | (refine Below.st ?_ (by assumption))))
      clear hW
      refine (X1.out _ (HC.out.go HW.out) (HD.out.go HW.out)).mono ?_
      rintro e w1 ⟨rfl, hb1⟩
      have m0 := cell_later hb1 c0
      have m1 := cell_later hb1 c1
      have HW1 := Lib.hid (HW.out.st hb1)
      clear c0 c1 hb1 hsW HW
      go_wp2_with fail
      refine (X2.out _ (HC.out.go HW1.out) (HE.out.go HW1.out)).mono ?_
      rintro e w2 ⟨rfl, hb2⟩
      have c0 := cell_later hb2 m0
      have c1 := cell_later hb2 m1
      have HW2 := Lib.hid (HW1.out.st hb2)
      clear m0 m1 hb2 HW1
      go_wp2
      go_loopg [7, 8] a.length (fun gg v i wr => ∃ (k : Nat) (x : Int), k ≤ a.length ∧ a.length - k ≤ gg ∧ i = .int .i64 k ∧ v = .int .u64 x ∧ Aside (Below w2.heap.size w2 wr) ∧ Aside (shF g.es (a.take k) b = x))
      case atStart => exact ⟨0, 0, Nat.zero_le _, by omega, rfl, rfl, Below.refl _ _, shF_nil _ _⟩
      case round =>
        obtain ⟨k, n, hk, hg, rfl, rfl, HB, HN⟩ := hrel
        by_cases hlt : k < a.length
        · have hk0 : (0 : Int) ≤ (k : Int) := by omega
          have hlt3 : (k : Int) < (a.length : Int) := by omega
          have hk4 : (k : Int) ≤ (cb : Int) := by omega
          have HA := Lib.hid (HD.out.go (HW2.out.st HB.out))
          have HEr := Lib.hid (HE.out.go (HW2.out.st HB.out))
          obtain ⟨b1, o1, hao, hcell⟩ := HA.out.at hlt
          have hx := HM.out _ (List.getElem_mem hlt)
          obtain ⟨hw1, hw2, hj, hw3⟩ := HWT.out a[k] (List.getElem_mem hlt)
          obtain ⟨b2, o2, hao2, j1, j2, j3⟩ := (HC.out.go (HW2.out.st HB.out)).edge hj
          rw [← hw3] at j3
          have q0 := cell_later HB.out c0
          have q1 := cell_later HB.out c1
          have hst := shF_step (es := g.es) (P := a.take k) (M := b) hx.1 hx.2
          rw [← List.take_succ_eq_append_getElem hlt, HN.out] at hst
          have hn0 := (HS.out (a.take k) b).1
          rw [HN.out] at hn0
          have hn1 := (HS.out (a.take k) b).2
          rw [HN.out] at hn1
          clear j1 j2 hw3
          subst hao
          have Y1 := Lib.hid (fun W h => Has_any co cc b a[k] W (by omega) h)
          have Y2 := Lib.hid (fun W (h : Cel W (some ⟨b1, o1, none⟩) (a.map encI)) => (by
            have := Has_any (some ⟨b1, o1, none⟩) cb (a.take k) a[k] W (by rw [List.length_take]; omega) (h.take k)
            rw [List.length_take, Nat.min_eq_left (by omega)] at this
            exact this : Calls Try.prog 59 #[.slice (some ⟨b1, o1, none⟩) k cb, .int .i64 a[k]] W fun e w' => e = .returned (.bool (decide (a[k] ∈ a.take k))) ∧ W = w'))
          obtain ⟨x, hxe⟩ : ∃ x, a[k] = x := ⟨_, rfl⟩
          have j3' : wr.cell? ⟨b2, o2 + x.toNat * 3 + 2, none⟩ = some (.int .u64 (wt g.es x)) := by rw [← hxe]; exact j3
          rw [hxe] at hcell hx hst hw1 hw2 Y1 Y2
          clear j3
          obtain ⟨wv, hwe⟩ : ∃ wv, wt g.es x = wv := ⟨_, rfl⟩
          rw [hwe] at hst hw1 hw2 j3'
          subst hao2
          have i0 : 0 ≤ x := hx.1
          have i1 : x < (g.es.length : Int) := hx.2
          have w5 : IntKind.u64.wrap (n + wv) = n + wv := IntWalk.u64_in _ (by omega)
          have n5 : 0 ≤ n + wv := by omega
          have f1 := fun p => cell_ext p hcell
          have f2 := fun p => HA.out.go (below_ext wr p)
          have f3 := fun p => HEr.out.go (below_ext wr p)
          have F2 := Lib.hid f2
          have F3 := Lib.hid f3
          clear f2 f3
          have HST := Lib.hid hst
          clear hst hxe hwe
          cases e1 : decide (x ∈ b) with
          | false =>
            have HNn := Lib.hid (by
              have h := HST.out
              have h1 : ¬ x ∈ b := of_decide_eq_false e1
              by_cases h2 : x ∈ a.take k
              · rw [if_pos h2] at h; omega
              · rw [if_neg h2, if_neg h1] at h; omega : shF g.es (a.take (k + 1)) b = n)
            rw [e1] at Y1
            clear e1 HST Y2
            go_wp2
            refine wp_region_ext (by kernel_rfl) (by kernel_rfl) ?_
            repeat (go_big_quiet_step ((go_at_call 59; exact Calls.ext_of_same (Y1.out _ (F3.out _)))))
            refine wpQuiet_nil ?_
            rintro _ ⟨pq, rfl⟩
            have HBq := Lib.hid (below_ext wr pq)
            generalize ext wr pq = wq at HBq ⊢
            go_wp2
            go_roundg (a.length - (k + 1))
            case measure => omega
            case rel => exact ⟨k + 1, n, by omega, by omega, by go_num, rfl, HB.out.st HBq.out, HNn.out⟩
          | true =>
            rw [e1] at Y1
            cases e2 : decide (x ∈ a.take k) with
            | true =>
              have HNn := Lib.hid (by
                have h := HST.out
                rw [if_pos (of_decide_eq_true e2)] at h; omega : shF g.es (a.take (k + 1)) b = n)
              rw [e2] at Y2
              clear e1 e2 HST
              go_wp2
              refine wp_region_ext (by kernel_rfl) (by kernel_rfl) ?_
              repeat (go_big_quiet_step ((first
                | (go_at_call_of 59 (Value.slice co b.length cc); exact Calls.ext_of_same (Y1.out _ (F3.out _)))
                | (go_at_call 59; exact Calls.ext_of_same (Y2.out _ (F2.out _))))))
              refine wpQuiet_nil ?_
              rintro _ ⟨pq, rfl⟩
              have HBq := Lib.hid (below_ext wr pq)
              generalize ext wr pq = wq at HBq ⊢
              go_wp2
              go_roundg (a.length - (k + 1))
              case measure => omega
              case rel => exact ⟨k + 1, n, by omega, by omega, by go_num, rfl, HB.out.st HBq.out, HNn.out⟩
            | false =>
              have HNn := Lib.hid (by
                have h := HST.out
                rw [if_neg (of_decide_eq_false e2), if_pos (of_decide_eq_true e1)] at h; exact h : shF g.es (a.take (k + 1)) b = n + wv)
              rw [e2] at Y2
              clear e1 e2 HST
              go_wp2
              refine wp_region_ext (by kernel_rfl) (by kernel_rfl) ?_
              repeat (go_big_quiet_step ((first
                | (go_at_call_of 59 (Value.slice co b.length cc); exact Calls.ext_of_same (Y1.out _ (F3.out _)))
                | (go_at_call 59; exact Calls.ext_of_same (Y2.out _ (F2.out _))))))
              refine wpQuiet_nil ?_
              rintro _ ⟨pq, rfl⟩
              have HBq := Lib.hid (below_ext wr pq)
              generalize ext wr pq = wq at HBq ⊢
              have r0 := cell_later HBq.out q0
              have r1 := cell_later HBq.out q1
              have r2 := cell_later HBq.out hcell
              have r3 := cell_later HBq.out j3'
              clear q0 q1 hcell j3'
              go_wp2
              go_quiet (fail)
              go_wp2
              go_roundg (a.length - (k + 1))
              case measure => omega
              case rel => exact ⟨k + 1, n + wv, by omega, by omega, by go_num, rfl, (HB.out.st HBq.out).dr _, HNn.out⟩
        · obtain rfl : k = a.length := by omega
          have HRn := Lib.hid (by have := HN.out; rw [List.take_length] at this; exact this : shF g.es a b = n)
          go_wp2
          go_ret
          exact ⟨by rw [HR.out, HRn.out]; rfl, HW2.out.st HB.out⟩
end Go.Proofs.Ytfjplphdkfiljaa
