/-
  The law UnpackShortcuts.
-/
import Derived.Test.YtkdomobedfhhgaaGreatProg
import Derived.Test.YtkdomobedfhhgaaGreatRb11
import Derived.Test.YtkdomobedfhhgaaGreatRb12
import Derived.Test.YtkdomobedfhhgaaGreatRb07
set_option linter.unusedVariables false
set_option linter.unusedSimpArgs false
set_option linter.unnecessarySimpa false
namespace Go.Proofs.YtkdomobedfhhgaaGreat
open Go Go.Proofs Go.RowKit Go.Shelf Go.Proofs.YtkdomobedfhhgaaGreat.Hp Go.Proofs.YtkdomobedfhhgaaGreat.Ch

theorem rAt_in {R : List Int} {n : Nat} (hr : rankB R = true) (hl : R.length = n) (h0 : 0 < n) (v : Int) : 0 ≤ rAt R v ∧ rAt R v < (n : Int) := by
  unfold rAt
  by_cases hv : v.toNat < R.length
  · rw [List.getD_eq_getElem?_getD, List.getElem?_eq_getElem hv]
    have := rankB_in hr _ (List.getElem_mem hv)
    rw [hl] at this
    exact this
  · rw [List.getD_eq_getElem?_getD, List.getElem?_eq_none (by omega)]
    show (0 : Int) ≤ 0 ∧ (0 : Int) < n
    omega
theorem PE.inner {es : List EdgeD} {n : Nat} (hE : EdgesOK n es) {u v d : Int} {l I : List Int} (h : PE es u l v d I) : nodeN n u ∧ nodeN n v ∧ ∀ m ∈ I, nodeN n m := by
  induction h with
  | one h0 h =>
    have := hE.ok _ (List.mem_of_getElem? h)
    exact ⟨this.1, this.2.1, by simp⟩
  | two h h' ih ih' =>
    refine ⟨ih.1, ih'.2.1, fun m hm => ?_⟩
    rcases List.mem_append.1 hm with hm | hm
    · exact ih.2.2 m hm
    · rcases List.mem_cons.1 hm with rfl | hm
      · exact ih.2.1
      · exact ih'.2.2 m hm
/-- what a shortcut that was built stands for -/
def ShOK (n : Nat) (es : List EdgeD) (R : List Int) (x : SC) (L : List Int) : Prop :=
  L.length ≤ 4096 ∧ nodeN n x.f ∧ nodeN n x.t ∧ weightG ⟨n, es⟩ L = some x.w ∧ isB ⟨n, es⟩ x.f x.t L = true ∧ ∃ N, nodesG ⟨n, es⟩ x.f L = some N ∧ N.length ≤ 1000000 ∧ ∀ q (h : q < N.length), 1 ≤ q → q + 1 < N.length → nodeN n N[q] ∧ rAt R N[q] < rAt R x.f ∧ rAt R N[q] < rAt R x.t
theorem built_sh {n : Nat} {es : List EdgeD} {R : List Int} {S : List SC} {ro : List Int} (hg : rightG ⟨n, es⟩ = 0) (hn : n ≤ 12) (ho : HierOK es n R S ro) :
    FedS S ∧ ∀ i (h : i < S.length), ShOK n es R S[i] (unL S i) := by
  obtain ⟨_, _, _, hm⟩ := made_parts (madeR_built (g := ⟨n, es⟩) (n := n) hg rfl ho (by omega))
  have hE := edges_ok hg (n := n) rfl
  have hn0 : 0 < n := by have := (right_n hg).1; simp only at this; omega
  have hr := rAt_in ho.rank ho.len hn0
  refine ⟨made_fed hm, fun i hi => ?_⟩
  have hx : S.getD i scZ = S[i] := by rw [List.getD_eq_getElem?_getD, List.getElem?_eq_getElem hi]; rfl
  obtain ⟨I, h1, h2⟩ := made_way hm (fun x hx => by
    have k1 := ho.ends x hx
    have k2 := ho.big x hx
    have k3 := big12 hn
    omega) i hi
  rw [hx] at h1 h2
  have hl := made_len hm (fun v => (hr v).1) i hi 12 (.inl (by have := (hr (S.getD i scZ).f).2; omega))
  obtain ⟨e1, e2, e3⟩ := h1.inner hE
  have hu : nodeB (⟨n, es⟩ : GD).n S[i].f = true := by
    unfold nodeB
    simp only [Bool.and_eq_true, decide_eq_true_eq]
    exact e1
  have hl2 : (unL S i).length ≤ 4096 := by simpa using hl
  have hN := h1.nodes (g := ⟨n, es⟩) hg hu
  refine ⟨hl2, e1, e2, h1.weight (g := ⟨n, es⟩) hg, h1.is (g := ⟨n, es⟩) hg hu, _, hN, ?_, fun q hq h3 h4 => ?_⟩
  · rw [nodesG_length hN]
    omega
  · obtain ⟨q', rfl⟩ : ∃ q', q = q' + 1 := ⟨q - 1, by omega⟩
    have hq' : q' < I.length := by simp at h4; omega
    have e : ([S[i].f] ++ I ++ [S[i].t])[q' + 1] = I[q'] := by simp [List.getElem_append, hq']
    rw [e]
    have := h2 _ (List.getElem_mem hq')
    exact ⟨e3 _ (List.getElem_mem hq'), this.1, this.2⟩
theorem un_edges_ok {S : List SC} {k : Nat} {w w' : World} {e : Ending} (hk : k < S.length) (h : UnAllPost S [(k : Int)] w e w') : ∃ a c, e = .returned (.tuple #[.slice a (unL S k).length c, .bool true]) ∧ Cel w' a ((unL S k).map encI) ∧ Below w.heap.size w w' := by
  obtain ⟨v, b, out, rfl, k1, k2, k3, k4⟩ := h
  have hb : b = true := by
    rw [← k3]
    simp only [List.all_cons, List.all_nil, Bool.and_true]
    exact inS_iff.2 ⟨by omega, by omega⟩
  subst hb
  rcases k4 with ⟨_, rfl⟩ | ⟨k, _⟩
  · have e : unA S [(k : Int)] = unL S k := by
      show unL S _ ++ [] = _
      rw [List.append_nil, Int.toNat_natCast]
    rw [e] at k1
    obtain ⟨a, c, rfl, hc⟩ := Cel.of_owns k1
    exact ⟨a, c, rfl, hc, k2⟩
  · cases k
theorem unM_one {S : List SC} {k : Nat} (h : (unL S k).length ≤ 4096) : unM S [(k : Int)] ≤ 200000 := by
  have e : unM S [(k : Int)] = unW S (k : Int) := by simp [unM]
  rw [e]
  unfold unW
  rw [Int.toNat_natCast]
  split <;> omega

set_option maxRecDepth 100000 in
set_option maxHeartbeats 4000000 in
theorem UnpackShortcuts_any (g : GD) (ao : Option Addr) (cap : Nat) (h1 s1 : Int) (ro : Option Addr) (r : List Int) (rc : Nat) (w : World) (hc : Cel w ao (flat g.es)) (hr : Cel w ro (r.map encI)) :
    Calls Tryz.prog 10 #[.agg #[.int .i64 g.n, .slice ao g.es.length cap], .agg #[.int .i64 h1, .int .i64 s1, .slice ro r.length rc]] w fun e w' => e = .returned (.bool true) ∧ Below w.heap.size w w' := by
  obtain ⟨V, hV⟩ : ∃ V, V = (w.alloc (Obj.cells #[.int .i64 g.n, .slice ao g.es.length cap] 24)).alloc (Obj.cells #[.int .i64 h1, .int .i64 s1, .slice ro r.length rc] 27) := ⟨_, rfl⟩
  have hbV : Below w.heap.size w V := by rw [hV]; exact (Below.of_al _ _).al _
  have HQ := Lib.hid (show QB1 V w.heap.size g ao cap h1 s1 ro r rc by rw [hV]; constructor <;> go_simp)
  have HAL := Lib.hid alive24_any
  have HLI := Lib.hid (light20_any g.n g.es ao cap V)
  have HB := Lib.hid hbV
  have HV := Lib.hid hV
  obtain ⟨p0, p1, p2, p3, p4⟩ := HQ.out
  have HCS := Lib.hid (And.intro (hc.go hbV) (hr.go hbV))
  clear hbV hV hc hr
  cases hl : light20 g.n g.es with
  | false =>
    rw [hl] at HLI
    clear hl
    go_enter Tryz.func10, Tryz.ntmps10
    go_upto_region 1 with (fail)
    rw [← HV.out]
    go_wp2_with (first
      | (go_at_call 14; refine HLI.out.mono ?_; rintro e w1 ⟨rfl, hb1⟩; (have HB1 := Lib.hid (HB.out.st hb1)); clear hb1)
      | (go_at_call 47; refine (HAL.out _).mono ?_; rintro e w2 ⟨rfl, hb2⟩; (have HB2 := Lib.hid (HB1.out.st hb2)); clear hb2))
    go_ret
    exact ⟨rfl, HB2.out⟩
  | true =>
    obtain ⟨hg, hes⟩ := light20_small hl
    have HG := Lib.hid hg
    rw [hl] at HLI
    clear hl hg
    by_cases hr6 : (60 : Int) < (r.length : Int)
    · go_enter Tryz.func10, Tryz.ntmps10
      go_upto_region 1 with (fail)
      rw [← HV.out]
      go_wp2_with (first
        | (go_at_call 14; refine HLI.out.mono ?_; rintro e w1 ⟨rfl, hb1⟩; (have HB1 := Lib.hid (HB.out.st hb1)); (have k4 := cell_later hb1 p4); clear hb1)
        | (go_at_call 47; refine (HAL.out _).mono ?_; rintro e w2 ⟨rfl, hb2⟩; (have HB2 := Lib.hid (HB1.out.st hb2)); clear hb2))
      go_ret
      exact ⟨rfl, HB2.out⟩
    · have HBA := Lib.hid (fun W (hz : Below V.heap.size V W) => built_any g ao ro cap rc h1 s1 r W (HCS.out.1.go hz) (HCS.out.2.go hz) (fun k => by have := HG.out k; omega) (by omega) (by omega))
      have HZ := Lib.hid (fun k : buildB g h1 s1 r = 0 => build_right k)
      generalize buildB g h1 s1 r = k1 at *
      by_cases e1 : k1 = 0
      · subst e1
        have hgz := HZ.out rfl
        have hn := HG.out hgz
        have hgn := right_n hgz
        obtain ⟨n, hnn⟩ : ∃ n : Nat, g.n = (n : Int) := ⟨g.n.toNat, by omega⟩
        obtain ⟨gn, es⟩ := g
        simp only at hnn hn hes
        subst hnn
        have hn12 : n ≤ 12 := by omega
        have hes40 : es.length ≤ 40 := by omega
        have HGZ := Lib.hid hgz
        clear hgz HZ
        go_enter Tryz.func10, Tryz.ntmps10
        go_upto_region 1 with (fail)
        rw [← HV.out]
        go_upto_region 3 with (go_at_call 14; refine HLI.out.mono ?_; rintro e w1 ⟨rfl, hb1⟩; (have HB1 := Lib.hid hb1); (obtain ⟨x0, x1, x2, x3, x4⟩ := HQ.out.go hb1); clear hb1)
        go_upto_region 4 with (go_at_call 16; refine (HBA.out _ HB1.out).mono ?_; rintro e w2 hp2; (obtain ⟨hb, R, S, po, rfl, hbh, hb2⟩ := hp2.good rfl HGZ.out hn); (have HH := Lib.hid (show BH w2 hb n es R S po from hbh)); (have HB2 := Lib.hid (HB1.out.st hb2)); (have z0 := cell_later hb2 x0); (have z1 := cell_later hb2 x1); clear hb2 hp2 hbh)
        clear x0 x1 x2 x3 x4 p0 p1 p2 p3 p4
        have HSH := Lib.hid (built_sh HGZ.out hn12 HH.out.ok)
        have H9 := Lib.hid (made_bnd (es := es) (R := R) (S := S) (made_parts (madeR_built (g := ⟨n, es⟩) (n := n) HGZ.out rfl HH.out.ok (by omega))).2.2.2 (by omega) HH.out.mem.small.2.1)
        have hsl := HH.out.mem.small.2.1
        have HBV := Lib.hid (HB.out.st HB2.out)
        have HC2 := Lib.hid (HCS.out.1.go HB2.out)
        clear HBA HLI HQ HCS HB1 HV
        go_wp2
        go_loopg [7] S.length (fun gg v7 wr => ∃ k : Nat, k ≤ S.length ∧ S.length - k ≤ gg ∧ v7 = .int .i64 k ∧ Aside (Below w2.heap.size w2 wr))
        case atStart => exact ⟨0, Nat.zero_le _, by omega, rfl, Below.refl _ _⟩
        case round =>
          obtain ⟨k, hk, hgg, rfl, hBr⟩ := hrel
          have HBr := Lib.hid hBr.out
          have HSZ := Lib.hid (size_any hb n es R S _ _ wr (HH.out.go HBr.out).mem)
          clear hBr
          by_cases hlt : k < S.length
          · have hlt3 : (k : Int) < (S.length : Int) := by omega
            have HSC := Lib.hid (shortcut_any hb n es R S _ _ wr (HH.out.go HBr.out).mem k hlt)
            have hsh := HSH.out.2 k hlt
            have HED := Lib.hid (fun W (hz : Below wr.heap.size wr W) => (unEdges_any hb n es R S _ _ HSH.out.1 k W ((HH.out.go HBr.out).go hz).mem (unM_one hsh.1) H9.out).mono (fun _ _ h => un_edges_ok hlt h))
            have hxe := HH.out.ok.ends _ (List.getElem_mem hlt)
            generalize unL S k = L at *
            generalize S[k] = x at *
            obtain ⟨xf, xt, xw, xe, xa, xb⟩ := x
            simp only [scV] at HSC
            obtain ⟨hl4, hf, ht, hw, his, N, hN, hN6, hNq⟩ := hsh
            simp only at hf ht hw his hN hNq
            obtain ⟨fn, rfl⟩ : ∃ fn : Nat, xf = (fn : Int) := ⟨xf.toNat, by have := hf.1; omega⟩
            obtain ⟨tn, rfl⟩ : ∃ tn : Nat, xt = (tn : Int) := ⟨xt.toNat, by have := ht.1; omega⟩
            have hN1 : 1 ≤ N.length := by rw [nodesG_length hN]; omega
            have HWT := Lib.hid (fun a c W (hz : Below w2.heap.size w2 W) (hd : Cel W a (L.map encI)) => refWeight_any ⟨(n : Int), es⟩ ao a cap c L W (show es.length ≤ _ by omega) (by omega) (HC2.out.go hz) hd)
            rw [hw] at HWT
            simp only [Option.getD_some, Option.isSome_some] at HWT
            have HIS := Lib.hid (fun a c W (hz : Below w2.heap.size w2 W) (hd : Cel W a (L.map encI)) => refIs_any ⟨(n : Int), es⟩ ao a cap c (fn : Int) (tn : Int) L W (show es.length ≤ _ by omega) (by omega) (HC2.out.go hz) hd)
            rw [his] at HIS
            have HND := Lib.hid (fun a c W (hz : Below w2.heap.size w2 W) (hd : Cel W a (L.map encI)) => pNodes_any ⟨(n : Int), es⟩ ao a cap c (fn : Int) L W (show es.length ≤ _ by omega) (by omega) (HC2.out.go hz) hd)
            rw [hN] at HND
            simp only [NodesPost, Option.getD_some, Option.isSome_some] at HND
            have HNQ := Lib.hid hNq
            have HFT := Lib.hid (And.intro hf ht)
            have HN6 := Lib.hid (And.intro hN1 hN6)
            have r0 := cell_later HBr.out z0
            have r1 := cell_later HBr.out z1
            clear hf ht hw his hN hNq hN1 hl4 hxe
            go_upto_region 10 with (first
              | (go_at_call 48; refine HSZ.out.mono ?_; rintro e w4 ⟨rfl, rfl⟩)
              | (go_at_call 40; refine HSC.out.mono ?_; rintro e w3 ⟨rfl, hb3⟩; (have HB3 := Lib.hid hb3); clear hb3))
            obtain ⟨W4, hW4⟩ : ∃ W4, W4 = w3.alloc (Obj.cells #[.int .i64 (fn : Int), .int .i64 (tn : Int), .int .u64 xw, .int .i64 xe, .int .i64 xa, .int .i64 xb] 79) := ⟨_, rfl⟩
            rw [← hW4]
            have s0 : W4.cell? ⟨w3.heap.size, 0, none⟩ = some (.int .i64 (fn : Int)) := by rw [hW4]; go_simp
            have s1 : W4.cell? ⟨w3.heap.size, 1, none⟩ = some (.int .i64 (tn : Int)) := by rw [hW4]; go_simp
            have s2 : W4.cell? ⟨w3.heap.size, 2, none⟩ = some (.int .u64 xw) := by rw [hW4]; go_simp
            have HB4 := Lib.hid (show Below wr.heap.size wr W4 by rw [hW4]; exact HB3.out.st (Below.of_al _ _))
            have r0 := cell_later HB4.out r0
            have r1 := cell_later HB4.out r1
            clear hW4
            go_upto_region 11 with (go_at_call 49; refine (HED.out _ HB4.out).mono ?_; rintro e w5 ⟨a5, c5, rfl, hc5, hb5⟩; (have HC5 := Lib.hid hc5); (have HB5 := Lib.hid (HB4.out.st hb5)); (have t0 := cell_later hb5 s0); (have t1 := cell_later hb5 s1); (have t2 := cell_later hb5 s2); (have q0 := cell_later hb5 r0); (have q1 := cell_later hb5 r1); clear hc5 hb5)
            clear s0 s1 s2 r0 r1
            have HB25 := Lib.hid (HBr.out.st HB5.out)
            go_upto_region 12 with (go_at_call 50; refine (HWT.out a5 c5 _ HB25.out HC5.out).mono ?_; rintro e w6 ⟨rfl, hb6⟩; (have HB6 := Lib.hid hb6); (have u0 := cell_later hb6 t0); (have u1 := cell_later hb6 t1); (have u2 := cell_later hb6 t2); (have v0 := cell_later hb6 q0); (have v1 := cell_later hb6 q1); clear hb6)
            clear t0 t1 t2 q0 q1
            go_upto_region 14 with (go_at_call 51; refine (HIS.out a5 c5 _ (HB25.out.st HB6.out) (HC5.out.go HB6.out)).mono ?_; rintro e w7 ⟨rfl, hb7⟩; (have HB7 := Lib.hid (HB6.out.st hb7)); (have t0 := cell_later hb7 u0); (have t1 := cell_later hb7 u1); (have q0 := cell_later hb7 v0); (have q1 := cell_later hb7 v1); clear hb7)
            clear u0 u1 u2 v0 v1
            go_upto_region 15 with (go_at_call 52; refine (HND.out a5 c5 _ (HB25.out.st HB7.out) (HC5.out.go HB7.out)).mono ?_; rintro e w8 ⟨a8, c8, rfl, hc8, hb8, -⟩; (have HC8 := Lib.hid (show Cel w8 a8 (N.map encI) from hc8)); (have HB8 := Lib.hid (HB25.out.st (HB7.out.st hb8))); (have u0 := cell_later hb8 t0); (have u1 := cell_later hb8 t1); clear hb8 hc8)
            clear t0 t1 q0 q1
            have HH8 := Lib.hid (HH.out.go HB8.out)
            have hnl := HN6.out.2
            have hnl1 := HN6.out.1
            have HRK := Lib.hid (fun (v : Nat) (hv : v < n) W (hz : Below w8.heap.size w8 W) => (hrank_any hb n es R S _ _ W (HH8.out.go hz).mem v hv).mono (R' := fun e w' => e = .returned (.int .i64 (rAt R v)) ∧ Below W.heap.size W w') (fun _ _ ⟨he, hw⟩ => ⟨he, hw ▸ Below.refl _ _⟩))
            clear HSZ HSC HED HWT HIS HND
            go_wp2
            go_loopg [16] N.length (fun g2 v16 wr => ∃ q : Nat, 1 ≤ q ∧ q ≤ N.length ∧ N.length - q ≤ g2 ∧ v16 = .int .i64 q ∧ Aside (Below w8.heap.size w8 wr))
            case atStart => exact ⟨1, Nat.le_refl _, hnl1, by omega, rfl, Below.refl _ _⟩
            case round =>
              obtain ⟨q, hq1, hq2, hg2, rfl, hBq⟩ := hrel
              have HBq := Lib.hid hBq.out
              clear hBq
              by_cases hqn : q + 1 < N.length
              · have hqi : (q : Int) + 1 < (N.length : Int) := by omega
                have hq0 : (0 : Int) ≤ (q : Int) := by omega
                have hqN : q < N.length := by omega
                have hqn2 : (q : Int) < (N.length : Int) := by omega
                obtain ⟨m1, m2, m3⟩ := HNQ.out q hqN hq1 hqn
                obtain ⟨b8, o8, e8, y8⟩ := HC8.out.at hqN
                subst e8
                have x0 := cell_later HBq.out u0
                have x1 := cell_later HBq.out u1
                generalize N[q] = m at *
                obtain ⟨mn, rfl⟩ : ∃ mn : Nat, m = (mn : Int) := ⟨m.toNat, by have := m1.1; omega⟩
                have y9 : wr.cell? ⟨b8, o8 + q, none⟩ = some (.int .i64 (mn : Int)) := cell_later HBq.out y8
                have HR1 := Lib.hid (fun p => HRK.out mn (by have := m1.2; omega) _ (HBq.out.st (below_ext wr p)))
                have HR2 := Lib.hid (fun p => HRK.out fn (by have := HFT.out.1.2; omega) _ (HBq.out.st (below_ext wr p)))
                have HR3 := Lib.hid (fun p => HRK.out tn (by have := HFT.out.2.2; omega) _ (HBq.out.st (below_ext wr p)))
                have e1 := fun p => cell_ext p y9
                have e2 := fun p => cell_ext p x0
                have e3 := fun p => cell_ext p x1
                have HM23 := Lib.hid (And.intro m2 m3)
                generalize rAt R mn = rm at *
                generalize rAt R fn = rf at *
                generalize rAt R tn = rt at *
                clear m1 m2 m3 y8
                go_wp2
                refine wp_region_ext (by kernel_rfl) (by kernel_rfl) ?_
                repeat (go_big_quiet_step ((first
                  | (go_at_call_of 53 (#[.pointer (some ⟨hb, 0, none⟩), .int .i64 (mn : Int)] : Array Value); exact Calls.ext_of (HR1.out _))
                  | (go_at_call_of 53 (#[.pointer (some ⟨hb, 0, none⟩), .int .i64 (fn : Int)] : Array Value); exact Calls.ext_of (HR2.out _))
                  | (go_at_call_of 53 (#[.pointer (some ⟨hb, 0, none⟩), .int .i64 (tn : Int)] : Array Value); exact Calls.ext_of (HR3.out _)))))
                refine wpQuiet_nil ?_
                rintro _ ⟨ps, rfl⟩
                have HBs := Lib.hid (below_ext wr ps)
                generalize ext wr ps = ws at HBs ⊢
                clear e1 e2 e3 y9 x0 x1
                have hm2 := HM23.out.1
                have hm3 := HM23.out.2
                have HBs2 := Lib.hid (HBq.out.st HBs.out)
                have hge : decide (min rf rt ≤ rm) = false := by rw [decide_eq_false_iff_not]; omega
                go_wp2
                go_roundg (N.length - (q + 1))
                case measure => omega
                case rel => exact ⟨q + 1, by omega, by omega, Nat.le_refl _, by go_num, HBs2.out⟩
              · have hqi : ¬ (q : Int) + 1 < (N.length : Int) := by omega
                have HBx := Lib.hid (HB8.out.st HBq.out)
                go_wp2
                go_roundg (S.length - (k + 1))
                case measure => omega
                case rel => exact ⟨k + 1, by omega, Nat.le_refl _, by go_num, HBx.out⟩
          · obtain rfl : k = S.length := by omega
            go_wp2_with (first
              | (go_at_call 48; refine HSZ.out.mono ?_; rintro e w4 ⟨rfl, rfl⟩)
              | (go_at_call 47; refine (HAL.out _).mono ?_; rintro e w6 ⟨rfl, hb6⟩; (have HB6 := Lib.hid (HBr.out.st hb6)); clear hb6))
            go_ret
            exact ⟨rfl, HBV.out.st HB6.out⟩
      · have HE := Lib.hid e1
        have hk1 : (k1 != 0) = true := by simpa using e1
        clear e1
        go_enter Tryz.func10, Tryz.ntmps10
        go_upto_region 1 with (fail)
        rw [← HV.out]
        go_wp2_with (first
          | (go_at_call 14; refine HLI.out.mono ?_; rintro e w1 ⟨rfl, hb1⟩; (have HB1 := Lib.hid hb1); (obtain ⟨x0, x1, x2, x3, x4⟩ := HQ.out.go hb1); clear hb1)
          | (go_at_call 16; refine (HBA.out _ HB1.out).mono ?_; rintro e w2 hp2; (obtain ⟨rfl, hb2⟩ := hp2.nil HE.out); (have HB2 := Lib.hid (HB1.out.st hb2)); clear hb2 hp2)
          | (go_at_call 47; refine (HAL.out _).mono ?_; rintro e w6 ⟨rfl, hb6⟩; (have HB6 := Lib.hid (HB2.out.st hb6)); clear hb6))
        go_ret
        exact ⟨rfl, HB.out.st HB6.out⟩
end Go.Proofs.YtkdomobedfhhgaaGreat
