/-
  Walk of the reference of package gtext: the graph of some words.
-/
import Derived.Test.YtelcmkccfjdmjaaGreatDoorProg
import Derived.Test.YtelcmkccfjdmjaaGreatDoorGpD
import Derived.Deep.RegionWith
namespace Go.Proofs.YtelcmkccfjdmjaaGreatDoor
open Go.Proofs Go.RowKit Go.Shelf

/-- what the reference holds: the cell of the result, the cell of the graph, its row of edges -/
def RefSt (w0 : World) (n : Int) (vg v : Value) (es : List EdgeD) (W : World) : Prop :=
  C2 W w0.heap.size (.int .i64 0) (.slice none 0 0) ∧ C2 W (w0.heap.size + 1) (.int .i64 n) vg ∧ W.ownsRow (w0.heap.size + 2) 149 3 v es.length (flat es) ∧ Below w0.heap.size w0 W ∧ w0.heap.size + 2 ≤ W.heap.size
theorem RefSt.alloc {w0 W : World} {n : Int} {vg v : Value} {es : List EdgeD} (h : RefSt w0 n vg v es W) (o : Obj) : RefSt w0 n vg v es (W.alloc o) :=
  ⟨h.1.go (Below.of_al _ _), h.2.1.go (Below.of_al _ _), h.2.2.1.alloc _, h.2.2.2.1.al _, by have := h.2.2.2.2; simp; omega⟩
theorem RefSt.drew {w0 W : World} {n : Int} {vg v : Value} {es : List EdgeD} (h : RefSt w0 n vg v es W) : RefSt w0 n vg v es W.drew := ⟨h.1, h.2.1, h.2.2.1, h.2.2.2.1.drew, h.2.2.2.2⟩
theorem RefSt.set8 {w0 W : World} {n : Int} {vg v : Value} {es : List EdgeD} (h : RefSt w0 n vg v es W) {b : Nat} (hb : w0.heap.size + 2 ≤ b) (hv : v.ownBlock ≠ some b) (j : Nat) (u : Value) : RefSt w0 n vg v es (W.setCell ⟨b, j, none⟩ u) :=
  ⟨h.1.setAt _ (show b ≠ _ by omega) _, h.2.1.setAt _ (show b ≠ _ by omega) _, owns_setNew h.2.2.1 hv _, h.2.2.2.1.setCell (show w0.heap.size ≤ b by omega) _, by have := h.2.2.2.2; simpa [World.setCell] using this⟩
theorem RefSt.setG {w0 W : World} {n : Int} {vg v : Value} {es : List EdgeD} (h : RefSt w0 n vg v es W) (n' : Int) : RefSt w0 n' v v es ((W.setCell ⟨w0.heap.size + 1, 0, none⟩ (.int .i64 n')).setCell ⟨w0.heap.size + 1, 1, none⟩ v) :=
  ⟨(h.1.setAt _ (by simp) _).setAt _ (by simp) _, (h.2.1.set0 _).set1 _, ownsRow_setCell_below (ownsRow_setCell_below h.2.2.1 (a := ⟨w0.heap.size + 1, 0, none⟩) (by simp) _) (a := ⟨w0.heap.size + 1, 1, none⟩) (by simp) _,
    (h.2.2.2.1.setCell (Nat.le_succ _) _).setCell (Nat.le_succ _) _, by have := h.2.2.2.2; simpa [World.setCell] using this⟩
theorem RefSt.number {w0 W w3 : World} {n : Int} {vg v v3 : Value} {es es3 : List EdgeD} (h : RefSt w0 n vg v es W) (ho : w3.ownsRow (w0.heap.size + 2) 149 3 v3 es3.length (flat es3)) (hg : W.grownBy w3 v.ownBlock) : RefSt w0 n vg v3 es3 w3 :=
  ⟨h.1.grown hg (fun e => by have := (h.2.2.1.lt _ e.symm).1; omega), h.2.1.grown hg (fun e => by have := (h.2.2.1.lt _ e.symm).1; omega), ho,
    h.2.2.2.1.trans ((Below.refl w0.heap.size W).grown hg h.2.2.2.1.size (fun k e => by have := (h.2.2.1.lt k e).1; omega)), Nat.le_trans h.2.2.2.2 hg.size⟩

theorem C2.drew {W : World} {b : Nat} {x y : Value} (h : C2 W b x y) : C2 W.drew b x y := h
theorem numR_part {l : List ByteArray} {k : Nat} (h : k < l.length) :
    (faultK l k = 0 ∧ numR (partN l k) (partEs l k) k (parseI l[k]) = (partN l (k + 1), partEs l (k + 1), valK l k, 0)) ∨
    (faultK l k ≠ 0 ∧ numR (partN l k) (partEs l k) k (parseI l[k]) = (partN l k, partEs l k, 0, faultK l k)) := by
  have hg : l.getD k ByteArray.empty = l[k] := by rw [List.getD_eq_getElem?_getD, List.getElem?_eq_getElem h]; rfl
  have e := faultK_in h
  have hv : valK l k = (parseI l[k]).1 := by unfold valK; rw [hg]
  rw [partEs_step, partN_step, hv]
  unfold numR
  by_cases h1 : (parseI l[k]).2 ≠ 0
  · rw [if_pos h1] at e
    rw [if_pos h1, e]
    exact .inr ⟨by decide, rfl⟩
  · rw [if_neg h1] at e
    rw [if_neg h1, ← e]
    by_cases h2 : faultK l k = 0
    · rw [if_neg (by simpa using h2)]
      exact .inl ⟨h2, rfl⟩
    · rw [if_pos h2]
      exact .inr ⟨h2, rfl⟩

/-- what Number leaves in the reference's loop -/
def NumK (w0 wr : World) (n : Int) (v : Value) (r : Int × List EdgeD × Int × Int) (W : World) (e : Ending) (w3 : World) : Prop :=
  ∃ ao3 cap3, e = .returned (.tuple #[.agg #[.int .i64 r.1, .slice ao3 r.2.1.length cap3], .int .u64 r.2.2.1, .int .i64 r.2.2.2]) ∧ Aside (RefSt w0 n v (.slice ao3 r.2.1.length cap3) r.2.1 w3) ∧
    Aside (∀ b x y, wr.heap.size ≤ b → C2 W b x y → C2 w3 b x y ∧ (Value.slice ao3 r.2.1.length cap3).ownBlock ≠ some b)

theorem refNumK (l : List ByteArray) (k : Nat) (w0 wr : World) (v : Value) (hS0 : RefSt w0 (partN l k) v v (partEs l k) wr) (hk : k < l.length) (hU : Upto l k) (hk2 : k ≤ 49154) (hsz : ∀ x ∈ l, x.size ≤ 140737488355328) (W : World)
    (_hb : wr.heap.size ≤ W.heap.size) (hS : RefSt w0 (partN l k) v v (partEs l k) W) :
    Calls Tryz.prog 149 #[.agg #[.int .i64 (partN l k), v], .int .i64 k, .string l[k]] W (NumK w0 wr (partN l k) v (numR (partN l k) (partEs l k) k (parseI l[k])) W) := by
  refine (refNumber_any (partEs l k) (partN l k) v k (w0.heap.size + 2) l[k] W hS.2.2.1 hS.2.2.2.2 (by omega) (partN_bd hU) (lastF_bd hU) (fun h h3 => by rw [lastF_one l k h h3]; exact (valK_le l _).1) (fun h h3 => partEs_ne l k h h3)
    (by have := @partEs_len l k; omega) (hsz _ (List.getElem_mem hk))).mono ?_
  rintro e w3 ⟨v3, rfl, ho, hgr, hfr⟩
  obtain ⟨ao3, cap3, rfl, -⟩ := Cel.of_owns ho
  exact ⟨ao3, cap3, rfl, hS.number ho hgr, fun b x y hb2 hc => ⟨hc.grown hgr (fun e => by have := (hS0.2.2.1.lt b e.symm).2; omega), fun e => by
    rcases hfr b e with e | e
    · have := (hS0.2.2.1.lt b e).2; omega
    · have := hc.lt; omega⟩⟩

set_option maxHeartbeats 4000000 in
theorem refGParse_own (l : List ByteArray) (ao : Option Addr) (cap : Nat) (w : World) (hc : Cel w ao (l.map encS)) (hsz : ∀ x ∈ l, x.size ≤ 140737488355328) (hl : l.length ≤ 140737488355328) :
    Calls Tryz.prog 108 #[.slice ao l.length cap] w (GPPostF w (parseG l)) := by
  have HC := Lib.hid hc
  clear hc
  go_enter Tryz.func108, Tryz.ntmps108
  go_wp2_with fail
  have HS0 := Lib.hid (show RefSt w 0 (.slice none 0 0) (.slice none 0 0) (partEs l 0) ((w.alloc (gObj 0 (.slice none 0 0))).alloc (gObj 0 (.slice none 0 0))) from
    ⟨(C2.new w 53 _ _).go (Below.of_al _ _), C2.newAt _ 53 _ _ (by simp), World.ownsRow_nil _ _ _ _, (Below.of_al _ _).al _, by simp⟩)
  generalize (w.alloc (gObj 0 (.slice none 0 0))).alloc (gObj 0 (.slice none 0 0)) = W0 at *
  go_loopg [6, 7] 49155 (fun gq v6 v7 wr => ∃ (k : Nat) (v : Value), (k : Int) ≤ needK l k ∧ 49155 - k ≤ gq ∧ v7 = .int .i64 k ∧ v6 = .int .i64 (needK l k) ∧ Aside (Upto l k) ∧ Aside (RefSt w (partN l k) v v (partEs l k) wr))
  case atStart => exact ⟨0, .slice none 0 0, by unfold needK; simp, by omega, rfl, rfl, Upto.zero l, HS0.out⟩
  case round =>
    clear HS0
    obtain ⟨k, v, hkn, hg, rfl, rfl, HU, HS⟩ := hrel
    have hnb := needK_bd HU.out
    have hkl := HU.out.len'
    obtain ⟨nd, hnd⟩ : ∃ nd, needK l k = nd := ⟨_, rfl⟩
    by_cases hlt : (k : Int) < needK l k
    · by_cases hshort : l.length ≤ k
      · have HBAD := Lib.hid (part_short HU.out hlt hshort)
        rw [hnd] at hnb hkn hlt ⊢
        obtain ⟨a0, a1, y0, y1⟩ := HS.out.1
        go_wp2
        have r0 := (HS.out.1.set0 (.int .i64 0)).set1 (.slice none 0 0)
        obtain ⟨r0, r1, -, -⟩ := r0
        refine bodyPost_ret (by simp [results, Tryz.results108, go_sem, r0, r1]; try rfl) rfl ?_
        exact ⟨none, 0, by rw [HBAD.out]; rfl, by rw [HBAD.out]; exact Cel.nil _ _, (HS.out.2.2.2.1.setCell (Nat.le_refl _) _).setCell (Nat.le_refl _) _, fun _ e => by cases e⟩
      · have hkl2 : k < l.length := by omega
        obtain ⟨b, o, hao, hx1⟩ := HC.out.go HS.out.2.2.2.1 |>.at hkl2
        have HN := Lib.hid (fun W h1 h2 => refNumK l k w wr v HS.out hkl2 HU.out (by omega) hsz W h1 h2)
        have hcase := numR_part hkl2
        have hks : needK l (k + 1) = if k = 1 then 2 + 3 * valK l k else needK l k := needK_step l k
        have HKS := Lib.hid hks
        have HUN := Lib.hid (fun h => HU.out.succ h)
        have HNX := Lib.hid (fun h => needK_next (HU.out.succ h) hlt)
        have HPB := Lib.hid (fun h => part_bad HU.out hlt h)
        subst hao
        obtain ⟨ao1, cap1, e1, -⟩ := Cel.of_owns HS.out.2.2.1
        subst e1
        clear hks
        rcases hcase with ⟨hf, hr⟩ | ⟨hf, hr⟩
        · have HU2 := Lib.hid (HUN.out hf)
          have hnx := HNX.out hf
          have HV := Lib.hid (show k = 1 → 0 ≤ valK l k ∧ valK l k ≤ 16384 by rintro rfl; exact HU2.out.m (Nat.le_refl _))
          rw [hr] at HN
          clear HUN HNX HPB hr hf
          obtain ⟨nx, hnx2⟩ : ∃ nx, needK l (k + 1) = nx := ⟨_, rfl⟩
          have HNX2 := Lib.hid hnx2
          rw [hnx2] at hnx HKS
          rw [hnd] at hnb hkn hlt HKS ⊢
          clear hnx2 hnd
          obtain ⟨gn2, hgn2⟩ : ∃ gn2, partN l (k + 1) = gn2 := ⟨_, rfl⟩
          obtain ⟨es2, hes2⟩ : ∃ es2, partEs l (k + 1) = es2 := ⟨_, rfl⟩
          have HG2 := Lib.hid hgn2
          have HE2 := Lib.hid hes2
          rw [hgn2, hes2] at HN
          clear hgn2 hes2
          generalize valK l k = n2 at *
          generalize l[k] = x at *
          obtain ⟨a0, a1, y0, y1⟩ := HS.out.2.1
          generalize partN l k = gn at *
          generalize partEs l k = es at *
          by_cases hk1 : k = 1
          · have bk : ((k : Int) == 1) = true := by simp; omega
            have hv := HV.out hk1
            have HK2 := Lib.hid (show nx = 2 + 3 * n2 by rw [HKS.out, if_pos hk1])
            clear HKS HV hk1
            have hn0 : w.heap.size ≠ wr.heap.size := by have := HS.out.2.2.2.2; omega
            have hn1 : w.heap.size + 1 ≠ wr.heap.size := by have := HS.out.2.2.2.2; omega
            have hx2 : ∀ o', (wr.alloc o').cell? ⟨b, o + k, none⟩ = some (encS x) := fun o' => cell_later (Below.of_al _ o') hx1
            have a0' : ∀ o', (wr.alloc o').cell? ⟨w.heap.size + 1, 0, none⟩ = some (.int .i64 gn) := fun o' => cell_later (Below.of_al _ o') a0
            have a1' : ∀ o', (wr.alloc o').cell? ⟨w.heap.size + 1, 1, none⟩ = some (.slice ao1 es.length cap1) := fun o' => cell_later (Below.of_al _ o') a1
            go_wp2
            go_region_with (go_at_call 149; refine (HN.out _ (by first | exact Nat.le_refl _ | simp) (by first | exact HS.out.drew | exact HS.out.drew.alloc _ | exact (HS.out.alloc _).drew)).mono ?_; rintro e w3 ⟨ao3, cap3, rfl, hst, hkp⟩; have HS3 := Lib.hid hst; have HK3 := Lib.hid hkp; (first | (have hx := hkp _ _ _ (Nat.le_refl _) (C2.new wr 53 (.int .i64 0) (.slice none 0 0)).drew; obtain ⟨⟨p0, p1, m0, m1⟩, hne⟩ := hx; have HNE := Lib.hid hne; clear hne) | skip); clear hst hkp)
            all_goals
              obtain ⟨c0, c1, t0, t1⟩ := HS3.out.1
              have HA3 := fun o' => HS3.out.alloc o'
              have c0' := fun o' => (HA3 o').1.1
              have c1' := fun o' => (HA3 o').1.2.1
              have t0' := fun o' => (HA3 o').1.2.2.1
              have t1' := fun o' => (HA3 o').1.2.2.2
              obtain ⟨d0, d1, v0, v1⟩ := HS3.out.2.1
              have d0' := fun o' => (HA3 o').2.1.1
              have d1' := fun o' => (HA3 o').2.1.2.1
              have v0' := fun o' => (HA3 o').2.1.2.2.1
              have v1' := fun o' => (HA3 o').2.1.2.2.2
              clear HA3
              go_wp2
            all_goals
              go_roundg (49155 - (k + 1))
              case measure => omega
              case rel =>
                refine ⟨k + 1, .slice ao3 es2.length cap3, by rw [HNX2.out]; exact hnx, by omega, by go_num, by rw [HNX2.out, HK2.out], HU2.out, ?_⟩
                rw [HG2.out, HE2.out]
                first
                  | (have hne := HNE.out
                     exact ((HS3.out.set8 (b := wr.heap.size) (by have := HS.out.2.2.2.2; omega) hne 0 (.int .i64 gn2)).set8 (b := wr.heap.size) (by have := HS.out.2.2.2.2; omega) hne 1 (.slice ao3 es2.length cap3)).setG gn2)
                  | exact (HS3.out.alloc (gObj gn2 (.slice ao3 es2.length cap3))).setG gn2
          · have bk : ((k : Int) == 1) = false := by simp; omega
            have HK2 := Lib.hid (show nx = nd by rw [HKS.out, if_neg hk1])
            clear HKS HV hk1
            have hn0 : w.heap.size ≠ wr.heap.size := by have := HS.out.2.2.2.2; omega
            have hn1 : w.heap.size + 1 ≠ wr.heap.size := by have := HS.out.2.2.2.2; omega
            have hx2 : ∀ o', (wr.alloc o').cell? ⟨b, o + k, none⟩ = some (encS x) := fun o' => cell_later (Below.of_al _ o') hx1
            have a0' : ∀ o', (wr.alloc o').cell? ⟨w.heap.size + 1, 0, none⟩ = some (.int .i64 gn) := fun o' => cell_later (Below.of_al _ o') a0
            have a1' : ∀ o', (wr.alloc o').cell? ⟨w.heap.size + 1, 1, none⟩ = some (.slice ao1 es.length cap1) := fun o' => cell_later (Below.of_al _ o') a1
            go_wp2
            go_region_with (go_at_call 149; refine (HN.out _ (by first | exact Nat.le_refl _ | simp) (by first | exact HS.out.drew | exact HS.out.drew.alloc _ | exact (HS.out.alloc _).drew)).mono ?_; rintro e w3 ⟨ao3, cap3, rfl, hst, hkp⟩; have HS3 := Lib.hid hst; have HK3 := Lib.hid hkp; (first | (have hx := hkp _ _ _ (Nat.le_refl _) (C2.new wr 53 (.int .i64 0) (.slice none 0 0)).drew; obtain ⟨⟨p0, p1, m0, m1⟩, hne⟩ := hx; have HNE := Lib.hid hne; clear hne) | skip); clear hst hkp)
            all_goals
              obtain ⟨c0, c1, t0, t1⟩ := HS3.out.1
              have HA3 := fun o' => HS3.out.alloc o'
              have c0' := fun o' => (HA3 o').1.1
              have c1' := fun o' => (HA3 o').1.2.1
              have t0' := fun o' => (HA3 o').1.2.2.1
              have t1' := fun o' => (HA3 o').1.2.2.2
              obtain ⟨d0, d1, v0, v1⟩ := HS3.out.2.1
              have d0' := fun o' => (HA3 o').2.1.1
              have d1' := fun o' => (HA3 o').2.1.2.1
              have v0' := fun o' => (HA3 o').2.1.2.2.1
              have v1' := fun o' => (HA3 o').2.1.2.2.2
              clear HA3
              go_wp2
            all_goals
              go_roundg (49155 - (k + 1))
              case measure => omega
              case rel =>
                refine ⟨k + 1, .slice ao3 es2.length cap3, by rw [HNX2.out]; exact hnx, by omega, by go_num, by rw [HNX2.out, HK2.out], HU2.out, ?_⟩
                rw [HG2.out, HE2.out]
                first
                  | (have hne := HNE.out
                     exact ((HS3.out.set8 (b := wr.heap.size) (by have := HS.out.2.2.2.2; omega) hne 0 (.int .i64 gn2)).set8 (b := wr.heap.size) (by have := HS.out.2.2.2.2; omega) hne 1 (.slice ao3 es2.length cap3)).setG gn2)
                  | exact (HS3.out.alloc (gObj gn2 (.slice ao3 es2.length cap3))).setG gn2
        · have HBAD := Lib.hid (HPB.out hf)
          rw [hr] at HN
          clear HUN HNX HPB HKS hr
          have hf' : (faultK l k != 0) = true := by simpa using hf
          generalize faultK l k = f at *
          generalize l[k] = x at *
          rw [hnd] at hnb hkn hlt ⊢
          obtain ⟨a0, a1, y0, y1⟩ := HS.out.2.1
          generalize partN l k = gn at *
          generalize partEs l k = es at *
          have hn0 : w.heap.size ≠ wr.heap.size := by have := HS.out.2.2.2.2; omega
          have hn1 : w.heap.size + 1 ≠ wr.heap.size := by have := HS.out.2.2.2.2; omega
          have hx2 : ∀ o', (wr.alloc o').cell? ⟨b, o + k, none⟩ = some (encS x) := fun o' => cell_later (Below.of_al _ o') hx1
          have a0' : ∀ o', (wr.alloc o').cell? ⟨w.heap.size + 1, 0, none⟩ = some (.int .i64 gn) := fun o' => cell_later (Below.of_al _ o') a0
          have a1' : ∀ o', (wr.alloc o').cell? ⟨w.heap.size + 1, 1, none⟩ = some (.slice ao1 es.length cap1) := fun o' => cell_later (Below.of_al _ o') a1
          go_wp2
          go_region_with (go_at_call 149; refine (HN.out _ (by first | exact Nat.le_refl _ | simp) (by first | exact HS.out.drew | exact HS.out.drew.alloc _ | exact (HS.out.alloc _).drew)).mono ?_; rintro e w3 ⟨ao3, cap3, rfl, hst, hkp⟩; have HS3 := Lib.hid hst; have HK3 := Lib.hid hkp; (first | (have hx := hkp _ _ _ (Nat.le_refl _) (C2.new wr 53 (.int .i64 0) (.slice none 0 0)).drew; obtain ⟨⟨p0, p1, m0, m1⟩, hne⟩ := hx; have HNE := Lib.hid hne; clear hne) | skip); clear hst hkp)
          all_goals
            obtain ⟨c0, c1, t0, t1⟩ := HS3.out.1
            have HA3 := fun o' => HS3.out.alloc o'
            have c0' := fun o' => (HA3 o').1.1
            have c1' := fun o' => (HA3 o').1.2.1
            have t0' := fun o' => (HA3 o').1.2.2.1
            have t1' := fun o' => (HA3 o').1.2.2.2
            obtain ⟨d0, d1, v0, v1⟩ := HS3.out.2.1
            have d0' := fun o' => (HA3 o').2.1.1
            have d1' := fun o' => (HA3 o').2.1.2.1
            have v0' := fun o' => (HA3 o').2.1.2.2.1
            have v1' := fun o' => (HA3 o').2.1.2.2.2
            clear HA3
            go_wp2
          all_goals
            first
              | (have hne := HNE.out
                 have hst := (HS3.out.set8 (b := wr.heap.size) (by have := HS.out.2.2.2.2; omega) hne 0 (.int .i64 gn)).set8 (b := wr.heap.size) (by have := HS.out.2.2.2.2; omega) hne 1 (.slice ao3 es.length cap3)
                 have r0 := (hst.1.set0 (.int .i64 0)).set1 (.slice none 0 0)
                 obtain ⟨r0, r1, -, -⟩ := r0
                 refine bodyPost_ret (by simp [results, Tryz.results108, go_sem, r0, r1]; try rfl) rfl ?_
                 exact ⟨none, 0, by rw [HBAD.out]; rfl, by rw [HBAD.out]; exact Cel.nil _ _, (hst.2.2.2.1.setCell (Nat.le_refl _) _).setCell (Nat.le_refl _) _, fun _ e => by cases e⟩)
              | (have hst := HS3.out.alloc (gObj gn (.slice ao3 es.length cap3))
                 have r0 := (hst.1.set0 (.int .i64 0)).set1 (.slice none 0 0)
                 obtain ⟨r0, r1, -, -⟩ := r0
                 refine bodyPost_ret (by simp [results, Tryz.results108, go_sem, r0, r1]; try rfl) rfl ?_
                 exact ⟨none, 0, by rw [HBAD.out]; rfl, by rw [HBAD.out]; exact Cel.nil _ _, (hst.2.2.2.1.setCell (Nat.le_refl _) _).setCell (Nat.le_refl _) _, fun _ e => by cases e⟩)
    · have HC2 := Lib.hid (fun h => part_long HU.out hlt hkn h)
      have HC3 := Lib.hid (fun h => part_ok HU.out hlt hkn h)
      by_cases hlong : needK l k < l.length
      · have HBAD := Lib.hid (HC2.out hlong)
        rw [hnd] at hnb hkn hlt hlong HBAD ⊢
        clear HC2 HC3 hnd
        obtain ⟨a0, a1, y0, y1⟩ := HS.out.1
        go_wp2
        have r0 := (HS.out.1.set0 (.int .i64 0)).set1 (.slice none 0 0)
        obtain ⟨r0, r1, -, -⟩ := r0
        refine bodyPost_ret (by simp [results, Tryz.results108, go_sem, r0, r1]; try rfl) rfl ?_
        exact ⟨none, 0, by rw [HBAD.out]; rfl, by rw [HBAD.out]; exact Cel.nil _ _, (HS.out.2.2.2.1.setCell (Nat.le_refl _) _).setCell (Nat.le_refl _) _, fun _ e => by cases e⟩
      · have HOK := Lib.hid (HC3.out hlong)
        rw [hnd] at hnb hkn hlt hlong ⊢
        clear HC2 HC3 hnd
        obtain ⟨ao1, cap1, e1, -⟩ := Cel.of_owns HS.out.2.2.1
        subst e1
        obtain ⟨a0, a1, y0, y1⟩ := HS.out.1
        obtain ⟨d0, d1, v0, v1⟩ := HS.out.2.1
        generalize partN l k = gn at *
        generalize partEs l k = es at *
        go_wp2
        have r0 := (HS.out.1.set0 (.int .i64 gn)).set1 (.slice ao1 es.length cap1)
        obtain ⟨r0, r1, -, -⟩ := r0
        refine bodyPost_ret (by simp [results, Tryz.results108, go_sem, r0, r1]; try rfl) rfl ?_
        obtain ⟨ao8, cap8, e8, hc8⟩ := Cel.of_owns (ownsRow_setCell_below (ownsRow_setCell_below HS.out.2.2.1 (a := ⟨w.heap.size, 0, none⟩) (by simp) (.int .i64 gn)) (a := ⟨w.heap.size, 1, none⟩) (by simp) (.slice ao1 es.length cap1))
        cases e8
        refine ⟨_, cap1, by rw [HOK.out], ?_, (HS.out.2.2.2.1.setCell (Nat.le_refl _) _).setCell (Nat.le_refl _) _, fun x h => by subst h; have := (HS.out.2.2.1.lt x.block rfl).1; omega⟩
        rw [HOK.out]
        exact hc8

theorem refGParse_any (l : List ByteArray) (ao : Option Addr) (cap : Nat) (w : World) (hc : Cel w ao (l.map encS)) (hsz : ∀ x ∈ l, x.size ≤ 140737488355328) (hl : l.length ≤ 140737488355328) :
    Calls Tryz.prog 108 #[.slice ao l.length cap] w (GPPost w (parseG l)) :=
  (refGParse_own l ao cap w hc hsz hl).mono fun _ _ ⟨ao, cap, h1, h2, h3, _⟩ => ⟨ao, cap, h1, h2, h3⟩

end Go.Proofs.YtelcmkccfjdmjaaGreatDoor
