/-
  Walk of package heap: popping, putting.
-/
import Derived.Test.YtkdomobedfhhgaaProg
import Derived.Test.YtkdomobedfhhgaaQt07
set_option linter.unusedVariables false
set_option linter.unusedSimpArgs false
set_option linter.unnecessarySimpa false
namespace Go.Proofs.Ytkdomobedfhhgaa
open Go Go.Proofs Go.RowKit Go.Shelf Go.Proofs.Ytkdomobedfhhgaa.Hp

/-- what popping leaves -/
def PopPost (w : World) (b : Nat) (v va : Value) (l : List IK) (p : List Int) (e : Ending) (w' : World) : Prop :=
  e = .returned (topF l) ∧ ((l = [] ∧ Below w.heap.size w w') ∨ (l ≠ [] ∧ ∃ v', HeapW w' b v' va (dropF l p (gI l 0).1.toNat 0).1 (dropF l p (gI l 0).1.toNat 0).2 ∧ OffX (HX b v va) w w' ∧ v'.ownBlock = v.ownBlock))

set_option maxRecDepth 100000 in
set_option maxHeartbeats 2000000 in
theorem hPop_any (b : Nat) (v va : Value) (l : List IK) (p : List Int) (w : World) (h : HeapW w b v va l p) (ok : HeapOK l p) (hl : l.length ≤ 1000000) :
    Calls Try.prog 38 #[.pointer (some ⟨b, 0, none⟩)] w (PopPost w b v va l p) := by
  have HT := Lib.hid (hTop_any b v va l p w h)
  have hmf : ∀ (fn : Fn) (first cap : Array Value) (w : World), (Instr.makeFunc fn first cap).run Try.prog w = .ok (.func fn first cap) w := fun _ _ _ _ => rfl
  unfold PopPost
  cases l with
  | nil =>
    clear h ok
    go_enter Try.func38, Try.ntmps38
    go_wp2_with (go_at_call 39; refine HT.out.mono ?_; unfold topF; rintro e w1 ⟨rfl, hb1⟩)
    refine bodyPost_ret (v := topF []) (by simp [results, Try.results38, go_sem]; try rfl) rfl ?_
    first | exact ⟨rfl, .inl ⟨rfl, hb1⟩⟩ | exact ⟨rfl, .inl ⟨trivial, hb1⟩⟩
  | cons x r =>
    obtain ⟨k1, k2, k3⟩ := ok.c.pos 0 (by simp)
    have hg0 : gI (x :: r) 0 = x := rfl
    rw [hg0] at k1 k2 k3
    obtain ⟨u, hu⟩ : ∃ u : Nat, x.1 = (u : Int) := ⟨x.1.toNat, by omega⟩
    have hu2 : x.1.toNat = u := by omega
    rw [hu2] at k2 k3
    have HD := Lib.hid (fun W hW => hDrop_any b u 0 v va (x :: r) p W hW ok k2 (by simp) k3 (by rw [hg0]; exact hu) hl)
    have HH := Lib.hid h
    rw [hg0, hu2]
    obtain ⟨x1, x2⟩ := x
    simp only at hu
    subst hu
    clear h ok k1 k2 k3 hg0 hu2
    go_enter Try.func38, Try.ntmps38
    go_wp2_with (first
      | (go_at_call 39; refine HT.out.mono ?_; unfold topF; rintro e w1 ⟨rfl, hb1⟩)
      | (go_at_call 54; refine (HD.out _ (HH.out.go hb1)).mono ?_; rintro e w2 ⟨rfl, v2, hh2, ho2, hv2⟩))
    refine bodyPost_ret (v := topF (((u : Int), x2) :: r)) (by simp [results, Try.results38, go_sem]; try rfl) rfl ?_
    exact ⟨rfl, .inr ⟨by simp, v2, hh2, (OffX.of_below hb1).trans ho2, hv2⟩⟩

/-- what putting leaves -/
def PutPost (w : World) (b : Nat) (v va : Value) (r : Bool × List IK × List Int) (e : Ending) (w' : World) : Prop :=
  e = .returned (.bool r.1) ∧ ∃ v', HeapW w' b v' va r.2.1 r.2.2 ∧ OffX (HX b v va) w w' ∧ (v'.ownBlock = v.ownBlock ∨ ∃ g, v'.ownBlock = some g ∧ w.heap.size ≤ g)

/-- append at a step of a region that draws its order, what else stays, and where the row lies -/
theorem step_appC {P : Program} {w : World} {ops : Array Oper} {o : Oper} {a : Act} {K : Act → World → Prop} {Q : Exit → Act → World → Prop} {F : Prop} (hgd : o.guard = none) (s x : Operand) (t : TypeId)
    (ho : o.op = .call { callee := .builtin .append, args := #[s, x], argTypes := #[t, t] })
    (base : Nat) (E : TypeId) (z : Value) (size bytes : Nat) (hE : Elem P E z size bytes) (ht : P.underlying t = some (.slice E))
    (v : Value) (n : Nat) (xs : List Value) (ad : Addr) (m c : Nat) (news : List Value) (hs : a.eval s = v) (hx : a.eval x = .slice (some ad) m c)
    (hown : w.ownsRow base E size v n xs) (hnews : ∀ j u, news[j]? = some u → w.cell? (ad.add j) = some u) (h1 : ∀ u ∈ news, u.oneCell' = true)
    (hl : news.length = m * size ∧ 0 < m ∧ n + m ≤ 9223372036854775807 ∧ (n + m) * bytes ≤ 140737488355328 ∧ base ≤ w.heap.size)
    (h : ∀ g cap w', w'.ownsRow base E size (.slice (some ⟨g, 0, none⟩) (n + m) cap) (n + m) (xs ++ news) → w.grownBy w' v.ownBlock → Below base w w' → (v.ownBlock = some g ∨ g = w.heap.size) → K (a.put o.dst (.slice (some ⟨g, 0, none⟩) (n + m) cap)) w') :
    if Region.wanted o (yielded ops a.tmps) = true then Oper.wp P o a w K Q else F := by
  obtain ⟨hE, hz1, hz2⟩ := hE
  obtain ⟨i, hi, hz, hsz, hby⟩ := info_parts hE
  obtain ⟨l1, l2, l3, l4, l5⟩ := hl
  refine step_append_lies w hgd s x t ho base E i z size bytes ht hi hz hsz hby hz1 hz2 v n xs hs hown ad m c news hx l1 hnews h1 l2 (by unfold maxLen; omega) l4 l5 _ rfl ?_
  intro g cap w' ho hg hat hlt
  exact h g cap w' ho hg ((Below.refl _ w).grown hg l5 (fun k hk => (hown.lt k hk).1)) hat
theorem hp_two (w : World) (x y : Value) (T : TypeId) {k : Nat} (hk : k = w.heap.size) : ∀ j u, [x, y][j]? = some u → (w.alloc (.cells #[x, y] T)).cell? ((⟨k, 0, none⟩ : Addr).add j) = some u := by
  intro j u hu
  subst hk
  rw [Addr.add_lit]
  have := World.cell?_alloc_mark w #[x, y] T (0, 0) (0 + j)
  rw [this]
  simpa using hu
theorem OffX.then' {X Y : Nat → Prop} {a b c : World} (h : OffX X a b) (k : OffX Y b c) (hY : ∀ j, Y j → X j ∨ a.heap.size ≤ j) : OffX X a c :=
  ⟨k.os.trans h.os, k.tape.trans h.tape, k.output.trans h.output, Nat.le_trans h.size k.size, fun i hi hn => (k.block i (by have := h.size; omega) (fun e => (hY i e).elim hn (fun e => by omega))).trans (h.block i hi hn)⟩
theorem hp_onet (a b : Int) : ∀ u ∈ [Value.int .i64 a, .int .u64 b], u.oneCell' = true := by
  intro u hu
  simp at hu
  rcases hu with rfl | rfl <;> rfl
theorem HeapW.app {W W' : World} {b g cap : Nat} {v va : Value} {l : List IK} {p : List Int} {x : IK} (h : HeapW W b v va l p)
    (ho : W'.ownsRow 0 126 2 (.slice (some ⟨g, 0, none⟩) (l.length + 1) cap) (l.length + 1) (flatI l ++ [.int .i64 x.1, .int .u64 x.2])) (hg : W.grownBy W' v.ownBlock) (hat : v.ownBlock = some g ∨ g = W.heap.size) :
    HeapW (W'.setCell ⟨b, 0, none⟩ (.slice (some ⟨g, 0, none⟩) (l.length + 1) cap)) b (.slice (some ⟨g, 0, none⟩) (l.length + 1) cap) va (l ++ [x]) p := by
  have hlt := h.pb.lt
  have hp : PB W' b [v, va] := h.pb.eq (hg.block b hlt (fun e => h.d1 e.symm))
  have hgb : g ≠ b := by
    rcases hat with e | e
    · rintro rfl; exact h.d1 e
    · omega
  refine ⟨hp.set 0 _, ?_, ?_, ?_, h.d2, ?_⟩
  · rw [show (l ++ [x]).length = l.length + 1 by simp, flatI_append]
    exact ownsRow_setCell_other (a := ⟨b, 0, none⟩) ho (by simpa [Value.ownBlock] using hgb) _
  · refine ownsRow_setCell_other (a := ⟨b, 0, none⟩) (h.oa.kept hg ?_) h.d2 _
    cases hv : va.ownBlock with
    | none => exact .inl rfl
    | some k => exact .inr (fun e => h.d3 k e.symm hv)
  · simpa [Value.ownBlock] using hgb
  · intro k hk e
    have e2 : g = k := Option.some.inj hk
    subst e2
    rcases hat with e3 | e3
    · exact h.d3 g e3 e
    · have := (h.oa.lt g e).2
      omega

set_option maxRecDepth 100000 in
set_option maxHeartbeats 2000000 in
theorem hPut_old (b u i : Nat) (key : Int) (v va : Value) (l : List IK) (p : List Int) (w : World) (h : HeapW w b v va l p) (ok : HeapOK l p) (hu : u < p.length) (hl : l.length < 1000000) (hi : i < l.length) (hp : gP p u = (i : Int)) :
    Calls Try.prog 36 #[.pointer (some ⟨b, 0, none⟩), .int .i64 u, .int .u64 key] w (PutPost w b v va (putF l p u key)) := by
  obtain ⟨g, cg, rfl⟩ := own_form h.ol (by omega)
  obtain ⟨a, ca, rfl⟩ := own_form h.oa (by omega)
  have hpf : putF l p u key = if (gI l i).2 ≤ key then (false, l, p) else (true, riseF l p i ((u : Int), key)) := by
    unfold putF
    rw [if_neg (by omega), hp]
    rfl
  obtain ⟨p0, -⟩ := h.pb 0 _ rfl
  obtain ⟨p1, -⟩ := h.pb 1 _ rfl
  have s0 := (h.oa.cellAt u (by omega)).trans (show (p.map encI)[u]? = some (Value.int .i64 (i : Int)) by show _ = some (encI (i : Int)); rw [← hp]; unfold gP; simp [hu])
  obtain ⟨r0, r1⟩ := flatI_get l i hi
  have q1 := (h.ol.cellAt (i * 2 + 1) (by omega)).trans r1
  have hu0 : (0 : Int) ≤ (u : Int) := by omega
  have hu1 : (u : Int) < (p.length : Int) := by omega
  have hi0 : (0 : Int) ≤ (i : Int) := by omega
  have hi1 : (i : Int) < (l.length : Int) := by omega
  have hi2 : ((i : Int) == -1) = false := by rw [beq_eq_false_iff_ne]; omega
  have f1 := fun o => cell_later (Below.of_al w o) p1
  have f2 := fun o => cell_later (Below.of_al w o) s0
  unfold PutPost
  have HH := Lib.hid h
  have HRS := Lib.hid (fun W h => hRise_any b (Value.slice (some ⟨g, 0, none⟩) l.length cg) (Value.slice (some ⟨a, 0, none⟩) p.length ca) l p i ((u : Int), key) W h hi ⟨by simp, by simpa using hu⟩ (fun j hj => ⟨(ok.c.pos j hj).1, (ok.c.pos j hj).2.1⟩) (by omega))
  clear h r0 r1 ok
  generalize (gI l i).2 = k0 at *
  rw [hpf]
  clear hpf
  go_enter Try.func36, Try.ntmps36
  go_upto_region 3 with (fail)
  go_region
  obtain ⟨W, hW⟩ : ∃ W, W = (w.alloc (Obj.cells #[.int .i64 (u : Int), .int .u64 key] 126)).drew := ⟨_, rfl⟩
  have c0 : W.cell? ⟨w.heap.size, 0, none⟩ = some (.int .i64 (u : Int)) := by rw [hW]; show (w.alloc _).cell? _ = _; go_simp
  have c1 : W.cell? ⟨w.heap.size, 1, none⟩ = some (.int .u64 key) := by rw [hW]; show (w.alloc _).cell? _ = _; go_simp
  have hb : Below w.heap.size w W := by rw [hW]; exact (Below.of_al _ _).drew
  have HB := Lib.hid hb
  have HHW := Lib.hid (HH.out.go hb)
  have p0W := cell_later hb p0
  have q1W := cell_later hb q1
  rw [← hW]
  clear hW hb f1 f2 p0 p1 s0 q1
  by_cases hk : k0 ≤ key
  · have HK := Lib.hid hk
    go_wp2
    go_ret
    try rw [if_pos HK.out]
    exact ⟨rfl, _, HHW.out, .of_below HB.out, .inl rfl⟩
  · have HK := Lib.hid hk
    go_wp2_with (go_at_call 52; refine (HRS.out _ HHW.out).mono ?_; rintro e w6 ⟨rfl, hh6, ho6⟩)
    go_ret
    try rw [if_neg (by have := HK.out; omega)]
    exact ⟨rfl, _, hh6, (OffX.of_below HB.out).trans (ho6.mono hx_rx), .inl rfl⟩

set_option maxRecDepth 100000 in
set_option maxHeartbeats 2000000 in
theorem hPut_new (b u : Nat) (key : Int) (v va : Value) (l : List IK) (p : List Int) (w : World) (h : HeapW w b v va l p) (ok : HeapOK l p) (hu : u < p.length) (hl : l.length < 1000000) (hp : gP p u = -1) :
    Calls Try.prog 36 #[.pointer (some ⟨b, 0, none⟩), .int .i64 u, .int .u64 key] w (PutPost w b v va (putF l p u key)) := by
  obtain ⟨ao, cg, rfl, -⟩ := Cel.of_owns h.ol
  obtain ⟨a, ca, rfl⟩ := own_form h.oa (by omega)
  have hpf : putF l p u key = (true, riseF (l ++ [((u : Int), key)]) p l.length ((u : Int), key)) := by
    unfold putF
    rw [if_pos hp]
  obtain ⟨p0, -⟩ := h.pb 0 _ rfl
  obtain ⟨p1, -⟩ := h.pb 1 _ rfl
  have s0 := (h.oa.cellAt u (by omega)).trans (show (p.map encI)[u]? = some (Value.int .i64 (-1)) by show _ = some (encI (-1)); rw [← hp]; unfold gP; simp [hu])
  have hu0 : (0 : Int) ≤ (u : Int) := by omega
  have hu1 : (u : Int) < (p.length : Int) := by omega
  have f1 := fun o => cell_later (Below.of_al w o) p1
  have f2 := fun o => cell_later (Below.of_al w o) s0
  unfold PutPost
  have HH := Lib.hid h
  have HRS := Lib.hid (fun W v h => hRise_any b v (Value.slice (some ⟨a, 0, none⟩) p.length ca) (l ++ [((u : Int), key)]) p l.length ((u : Int), key) W h (by simp) ⟨by simp, by simpa using hu⟩ (fun j hj => by
    by_cases hjl : j < l.length
    · rw [gI_append_left hjl]
      exact ⟨(ok.c.pos j hjl).1, (ok.c.pos j hjl).2.1⟩
    · obtain rfl : j = l.length := by simp at hj; omega
      rw [show gI (l ++ [((u : Int), key)]) l.length = ((u : Int), key) by simp [gI]]
      exact ⟨by simp, by simpa using hu⟩) (by simp; omega))
  clear h ok
  rw [hpf]
  clear hpf
  go_enter Try.func36, Try.ntmps36
  go_upto_region 3 with (fail)
  go_region
  obtain ⟨W, hW⟩ : ∃ W, W = (w.alloc (Obj.cells #[.int .i64 (u : Int), .int .u64 key] 126)).drew := ⟨_, rfl⟩
  have c0 : W.cell? ⟨w.heap.size, 0, none⟩ = some (.int .i64 (u : Int)) := by rw [hW]; show (w.alloc _).cell? _ = _; go_simp
  have c1 : W.cell? ⟨w.heap.size, 1, none⟩ = some (.int .u64 key) := by rw [hW]; show (w.alloc _).cell? _ = _; go_simp
  have hb : Below w.heap.size w W := by rw [hW]; exact (Below.of_al _ _).drew
  have HB := Lib.hid hb
  have HHW := Lib.hid (HH.out.go hb)
  have p0W := cell_later hb p0
  have HNB := Lib.hid (show b ≠ w.heap.size ∧ a ≠ w.heap.size ∧ ∀ k, (Value.slice ao l.length cg).ownBlock = some k → k ≠ w.heap.size from ⟨by have := HH.out.pb.lt; omega, by have := (HH.out.oa.lt a rfl).2; omega, fun k hk => by have := (HH.out.ol.lt k hk).2; omega⟩)
  rw [← hW]
  clear hW hb f1 f2 p0 p1 s0
  have hKW : w.heap.size < W.heap.size := World.block_lt_of_cell? _ _ c0
  have f0 := fun o => cell_later (Below.of_al W o) p0W
  have f1 := fun o => cell_later (Below.of_al W o) c0
  have f2 := fun o => cell_later (Below.of_al W o) c1
  have hl2 : (l.length : Int) < 1000000 := by omega
  go_wp2
  go_region_law (refine step_appC rfl (.tmp 41) (.tmp 43) 122 rfl 0 126 _ 2 16 hp_elemt Try.underlying122 (.slice ao l.length cg) l.length (flatI l) ⟨W.heap.size, 0, none⟩ 1 1 [.int .i64 (u : Int), .int .u64 key] rfl rfl (World.ownsRow.alloc (owns_dr HHW.out.ol 1) _) (hp_two _ _ _ _ rfl) (hp_onet _ _) ⟨rfl, by decide, by omega, by omega, by simp⟩ ?_; intro g6 cap6 w6 hown hgr hbl hat; (have hU := (Below.of_al W (Obj.cells #[.int .i64 (u : Int), .int .u64 key] 126)).drew; have HA6 := Lib.hid ((HHW.out.go hU).app (x := ((u : Int), key)) hown hgr hat); have HP6 := Lib.hid ((HHW.out.go hU).pb.eq (hgr.block b ((HHW.out.go hU).pb.lt) (fun e => HHW.out.d1 e.symm))); have HO6 := Lib.hid (((OffX.of_below HB.out).trans (OffX.of_below hU)).trans (⟨hgr.os, hgr.tape, hgr.output, hgr.size, fun k hk hn => hgr.block k hk (fun e => hn (.inr (.inl e.symm)))⟩ : OffX (HX b (Value.slice ao l.length cg) (Value.slice (some ⟨a, 0, none⟩) p.length ca)) _ w6)); have HC6 := Lib.hid (show w6.cell? ⟨w.heap.size, 0, none⟩ = some (.int .i64 (u : Int)) ∧ w6.cell? ⟨w.heap.size, 1, none⟩ = some (.int .u64 key) from ⟨(World.cell?_of_block (hgr.block w.heap.size (by have := hU.size; omega) (fun e => HNB.out.2.2 w.heap.size e.symm rfl))).trans (f1 _), (World.cell?_of_block (hgr.block w.heap.size (by have := hU.size; omega) (fun e => HNB.out.2.2 w.heap.size e.symm rfl))).trans (f2 _)⟩); have HG6 := Lib.hid (show (Value.slice ao l.length cg).ownBlock = some g6 ∨ w.heap.size ≤ g6 from hat.imp id (fun e => by have := hU.size; have := HB.out.size; omega)); clear hown hgr hbl hat hU); obtain ⟨p6, y6⟩ := HP6.out 0 _ rfl)
  all_goals
    obtain ⟨W7, hW7⟩ : ∃ W7, W7 = w6.setCell ⟨b, 0, none⟩ (.slice (some ⟨g6, 0, none⟩) (l.length + 1) cap6) := ⟨_, rfl⟩
    have HA7 := Lib.hid (show HeapW W7 b (.slice (some ⟨g6, 0, none⟩) (l.length + 1) cap6) (.slice (some ⟨a, 0, none⟩) p.length ca) (l ++ [((u : Int), key)]) p by rw [hW7]; exact HA6.out)
    have HO7 := Lib.hid (show OffX (HX b (Value.slice ao l.length cg) (Value.slice (some ⟨a, 0, none⟩) p.length ca)) w W7 by rw [hW7]; exact HO6.out.trans (.set _ (.inl rfl)))
    have HC7 := Lib.hid (show W7.cell? ⟨w.heap.size, 0, none⟩ = some (.int .i64 (u : Int)) ∧ W7.cell? ⟨w.heap.size, 1, none⟩ = some (.int .u64 key) by
      rw [hW7]
      exact ⟨by rw [World.cell?_setCell_other _ _ _ _ (fun e => HNB.out.1 (congrArg Addr.block e))]; exact HC6.out.1, by rw [World.cell?_setCell_other _ _ _ _ (fun e => HNB.out.1 (congrArg Addr.block e))]; exact HC6.out.2⟩)
    rw [← hW7]
    clear hW7 p6 y6 HA6 HO6 HC6 HP6 f0 f1 f2 p0W c0 c1
    obtain ⟨p7, -⟩ := HA7.out.pb 0 _ rfl
    obtain ⟨c7, c8⟩ := HC7.out
    go_wp2_with (go_at_call 52; refine (HRS.out _ _ HA7.out).mono ?_; rintro e w9 ⟨rfl, hh9, ho9⟩)
    go_ret
    refine ⟨rfl, _, hh9, HO7.out.then' ho9 ?_, ?_⟩
    · rintro k (hk | hk)
      · obtain rfl : g6 = k := Option.some.inj hk
        exact HG6.out.imp (fun e => .inr (.inl e)) id
      · exact .inl (.inr (.inr hk))
    · rcases HG6.out with e | e
      · exact .inl e.symm
      · exact .inr ⟨g6, rfl, e⟩

theorem hPut_any (b u : Nat) (key : Int) (v va : Value) (l : List IK) (p : List Int) (w : World) (h : HeapW w b v va l p) (ok : HeapOK l p) (hu : u < p.length) (hl : l.length < 1000000) :
    Calls Try.prog 36 #[.pointer (some ⟨b, 0, none⟩), .int .i64 u, .int .u64 key] w (PutPost w b v va (putF l p u key)) := by
  rcases ok.c.place hu with ⟨h1, _⟩ | ⟨i, hi, h1, _⟩
  · exact hPut_new b u key v va l p w h ok hu hl h1
  · exact hPut_old b u i key v va l p w h ok hu hl hi h1

end Go.Proofs.Ytkdomobedfhhgaa
