/-
  Walks of the reference of package gtext: a word more, into a graph.
-/
import Derived.Test.YtelcmkccfjdmjaaGreatDoorProg
import Derived.Test.YtelcmkccfjdmjaaGreatDoorGpE
import Derived.Test.YtelcmkccfjdmjaaGreatDoorGpA
namespace Go.Proofs.YtelcmkccfjdmjaaGreatDoor
open Go.Proofs Go.RowKit Go.Shelf

/-- a word more: the graph's nodes, its edges, the number, and the fault -/
def numR (gn : Int) (es : List EdgeD) (k : Nat) (q : Int × Int) : Int × List EdgeD × Int × Int :=
  if q.2 ≠ 0 then (gn, es, 0, 3) else if mayK gn k (lastF es) q.1 ≠ 0 then (gn, es, 0, mayK gn k (lastF es) q.1) else (takeN k q.1 gn, takeEs k q.1 es, q.1, 0)
def NumberPost (w : World) (base : Nat) (v : Value) (r : Int × List EdgeD × Int × Int) (e : Ending) (w' : World) : Prop :=
  ∃ v', e = .returned (.tuple #[.agg #[.int .i64 r.1, v'], .int .u64 r.2.2.1, .int .i64 r.2.2.2]) ∧ w'.ownsRow base 149 3 v' r.2.1.length (flat r.2.1) ∧ w.grownBy w' v.ownBlock ∧ ∀ b, v'.ownBlock = some b → v.ownBlock = some b ∨ w.heap.size ≤ b

theorem mayK_le {gn fr n : Int} {k : Nat} (hg : gn ≤ 4096) (h : mayK gn k fr n = 0) : n ≤ 4294967296 := by
  unfold mayK at h
  split at h
  · have := withinF_le (by decide) h; omega
  · split at h
    · have := withinF_le (by decide) h; omega
    · split at h
      · exact withinF_le (by decide) h
      · split at h
        · cases h
        · rename_i hh
          have : ¬ n ≥ gn := fun e => hh (.inl e)
          omega

set_option maxHeartbeats 2000000 in
theorem refNumber_any (es : List EdgeD) (gn : Int) (v : Value) (k base : Nat) (s : ByteArray) (w : World) (hown : w.ownsRow base 149 3 v es.length (flat es)) (hb : base ≤ w.heap.size) (hk : k ≤ 140737488355328)
    (hg : 0 ≤ gn ∧ gn ≤ 4096) (hlf : -1 ≤ lastF es ∧ lastF es ≤ 4096) (hfr : 2 ≤ k → (k - 2) % 3 = 1 → 0 ≤ lastF es) (hne : 2 ≤ k → (k - 2) % 3 ≠ 0 → es ≠ []) (hl : es.length ≤ 1000000) (hs : s.size ≤ 140737488355328) :
    Calls Tryz.prog 149 #[.agg #[.int .i64 gn, v], .int .i64 k, .string s] w (NumberPost w base v (numR gn es k (parseI s))) := by
  obtain ⟨ao, cap, rfl, -⟩ := Cel.of_owns hown
  have HO := Lib.hid hown
  have HL := Lib.hid hown.lt
  clear hown
  have HP := Lib.hid (fun W => refParse_any s W hs)
  have hp := parseI_le s
  generalize parseI s = q at *
  obtain ⟨n, pf⟩ := q
  simp only at HP hp
  by_cases hpf : pf = 0
  · subst hpf
    have HK := Lib.hid (fun W => refKRight_any gn ao es.length cap k (lastF es) n W hk hg (fun h2 h3 => ⟨hfr h2 h3, hlf.2⟩) hp)
    have HMN := Lib.hid (fun h => @mayK_le gn (lastF es) n k hg.2 h)
    have HT := Lib.hid (fun W h1 h2 h3 => refTake_any es gn (.slice ao es.length cap) k base n W h1 h2 hk hne ⟨hp.1, h3⟩ hl)
    by_cases hm : mayK gn k (lastF es) n = 0
    · have HN := Lib.hid (show numR gn es k (n, 0) = (takeN k n gn, takeEs k n es, n, 0) by unfold numR; rw [if_neg (by simp), if_neg (by simp [hm])])
      have hn2 := HMN.out hm
      rw [hm] at HK
      generalize numR gn es k (n, 0) = r at *
      clear HMN hm hfr
      by_cases hz : es = []
      · subst hz
        have he : lastF [] = -1 := rfl
        rw [he] at HK
        clear hne hlf he
        have HL0 := Lib.hid (show ([] : List EdgeD).length = 0 from rfl)
        go_enter Tryz.func149, Tryz.ntmps149
        go_wp2_with (first | (go_at_call 84; refine (HP.out _).mono ?_; rintro e w1 ⟨rfl, rfl⟩) | (go_at_call 184; refine (HK.out _).mono ?_; rintro e w2 ⟨rfl, rfl⟩) | (go_at_call 185; refine (HT.out _ (((HO.out.alloc _).alloc _).alloc _) (by simp; omega) hn2).mono ?_; rintro e w3 ⟨v3, rfl, hown3, hgr3, hfr3⟩; (obtain ⟨ao3, cap3, rfl, -⟩ := Cel.of_owns hown3; have HR3 := Lib.hid (((C2.newAt (w.alloc (gObj gn _)) 53 (.int .i64 0) (.slice none 0 0) (show _ = w.heap.size + 1 by simp)).go (Below.of_al _ _)).grown hgr3 (fun e => by have := (HL.out _ e.symm).2; omega)); have HO3 := Lib.hid hown3; have HW3 := Lib.hid (grown_trans (grown_below _ (((Below.of_al w (gObj gn _)).al (gObj 0 (.slice none 0 0))).al (gObj gn _))) hgr3); have HB3 := Lib.hid hfr3; clear hown3 hgr3 hfr3; obtain ⟨q0, q1, z0, z1⟩ := HR3.out)))
        have HF := (HR3.out.set0 (.int .i64 (takeN k n gn))).set1 (.slice ao3 (takeEs k n []).length cap3)
        obtain ⟨r0, r1, -, -⟩ := HF
        refine bodyPost_ret (by simp [results, Tryz.results149, go_sem, r0, r1]; try rfl) rfl ?_
        rw [HN.out]
        refine ⟨_, rfl, owns_setNew (owns_setNew HO3.out ?_ _) ?_ _, grown_setNew (grown_setNew HW3.out (Nat.le_succ _) _) (Nat.le_succ _) _, fun b h => (HB3.out b h).imp id (fun h => by simp at h; omega)⟩
        all_goals
          intro e
          rcases HB3.out _ e with e | e
          · have := (HL.out _ e).2
            simp only at this
            omega
          · simp at e
            omega
      · obtain ⟨j, hj⟩ : ∃ j, es.length = j + 1 := ⟨es.length - 1, by have := List.length_pos_iff.2 hz; omega⟩
        obtain ⟨g, cap', e1, -, hgl⟩ := HO.out.form (by omega)
        simp only [Value.slice.injEq, true_and] at e1
        obtain ⟨rfl, rfl⟩ := e1
        have hj2 : j ≤ 1000000 := by omega
        have hlt : j < es.length := by omega
        obtain ⟨F1, F2, F3⟩ := flat_get es j hlt
        have HLF := Lib.hid (show lastF es = es[j].f by unfold lastF; rw [if_neg hz, show es.length - 1 = j by omega]; simp [List.getD, hlt])
        rw [HLF.out] at HK
        generalize es[j] = y at *
        rw [hj] at HO HT HK
        rw [hj] at HL ⊢
        have HJ := Lib.hid hj
        clear hj hlt hne hlf hz
        have k1 : w.cell? ⟨g, j * 3, none⟩ = some (.int .i64 y.f) := (HO.out.cellAt (j * 3) (by omega)).trans F1
        clear F1 F2 F3
        go_enter Tryz.func149, Tryz.ntmps149
        go_wp2_with (first | (go_at_call 84; refine (HP.out _).mono ?_; rintro e w1 ⟨rfl, rfl⟩) | (go_at_call 184; refine (HK.out _).mono ?_; rintro e w2 ⟨rfl, rfl⟩) | (go_at_call 185; refine (HT.out _ (((HO.out.alloc _).alloc _).alloc _) (by simp; omega) hn2).mono ?_; rintro e w3 ⟨v3, rfl, hown3, hgr3, hfr3⟩; (obtain ⟨ao3, cap3, rfl, -⟩ := Cel.of_owns hown3; have HR3 := Lib.hid (((C2.newAt (w.alloc (gObj gn _)) 53 (.int .i64 0) (.slice none 0 0) (show _ = w.heap.size + 1 by simp)).go (Below.of_al _ _)).grown hgr3 (fun e => by have := (HL.out _ e.symm).2; omega)); have HO3 := Lib.hid hown3; have HW3 := Lib.hid (grown_trans (grown_below _ (((Below.of_al w (gObj gn _)).al (gObj 0 (.slice none 0 0))).al (gObj gn _))) hgr3); have HB3 := Lib.hid hfr3; clear hown3 hgr3 hfr3; obtain ⟨q0, q1, z0, z1⟩ := HR3.out)))
        have HF := (HR3.out.set0 (.int .i64 (takeN k n gn))).set1 (.slice ao3 (takeEs k n es).length cap3)
        obtain ⟨r0, r1, -, -⟩ := HF
        refine bodyPost_ret (by simp [results, Tryz.results149, go_sem, r0, r1]; try rfl) rfl ?_
        rw [HN.out]
        refine ⟨_, rfl, owns_setNew (owns_setNew HO3.out ?_ _) ?_ _, grown_setNew (grown_setNew HW3.out (Nat.le_succ _) _) (Nat.le_succ _) _, fun b h => (HB3.out b h).imp id (fun h => by simp at h; omega)⟩
        all_goals
          intro e
          rcases HB3.out _ e with e | e
          · have := (HL.out _ e).2
            simp only at this
            omega
          · simp at e
            omega
    · have HN := Lib.hid (show numR gn es k (n, 0) = (gn, es, 0, mayK gn k (lastF es) n) by unfold numR; rw [if_neg (by simp), if_pos (by simpa using hm)])
      generalize numR gn es k (n, 0) = r at *
      have hm' : (mayK gn k (lastF es) n != 0) = true := by simpa using hm
      generalize mayK gn k (lastF es) n = m at *
      clear HMN hm hfr HT
      by_cases hz : es = []
      · subst hz
        have he : lastF [] = -1 := rfl
        rw [he] at HK
        clear hne hlf he
        go_enter Tryz.func149, Tryz.ntmps149
        go_wp2_with (first | (go_at_call 84; refine (HP.out _).mono ?_; rintro e w1 ⟨rfl, rfl⟩) | (go_at_call 184; refine (HK.out _).mono ?_; rintro e w2 ⟨rfl, rfl⟩) | (go_at_call 185; refine (HT.out _ (((HO.out.alloc _).alloc _).alloc _) (by simp; omega) hn2).mono ?_; rintro e w3 ⟨v3, rfl, hown3, hgr3, hfr3⟩; (obtain ⟨ao3, cap3, rfl, -⟩ := Cel.of_owns hown3; have HR3 := Lib.hid (((C2.newAt (w.alloc (gObj gn _)) 53 (.int .i64 0) (.slice none 0 0) (show _ = w.heap.size + 1 by simp)).go (Below.of_al _ _)).grown hgr3 (fun e => by have := (HL.out _ e.symm).2; omega)); have HO3 := Lib.hid hown3; have HW3 := Lib.hid (grown_trans (grown_below _ (((Below.of_al w (gObj gn _)).al (gObj 0 (.slice none 0 0))).al (gObj gn _))) hgr3); have HB3 := Lib.hid hfr3; clear hown3 hgr3 hfr3; obtain ⟨q0, q1, z0, z1⟩ := HR3.out)))
        have HF := (C2.newAt (w.alloc (gObj gn (.slice ao 0 cap))) 53 (.int .i64 gn) (.slice ao 0 cap) (show _ = w.heap.size + 1 by simp)).go (Below.of_al _ (gObj gn (.slice ao 0 cap)))
        obtain ⟨r0, r1, -, -⟩ := HF
        refine bodyPost_ret (by simp [results, Tryz.results149, go_sem, r0, r1]; try rfl) rfl ?_
        rw [HN.out]
        exact ⟨_, rfl, ((HO.out.alloc _).alloc _).alloc _, grown_below _ (((Below.of_al _ _).al _).al _), fun _ h => .inl h⟩
      · obtain ⟨j, hj⟩ : ∃ j, es.length = j + 1 := ⟨es.length - 1, by have := List.length_pos_iff.2 hz; omega⟩
        obtain ⟨g, cap', e1, -, hgl⟩ := HO.out.form (by omega)
        simp only [Value.slice.injEq, true_and] at e1
        obtain ⟨rfl, rfl⟩ := e1
        have hj2 : j ≤ 1000000 := by omega
        have hlt : j < es.length := by omega
        obtain ⟨F1, F2, F3⟩ := flat_get es j hlt
        have HLF := Lib.hid (show lastF es = es[j].f by unfold lastF; rw [if_neg hz, show es.length - 1 = j by omega]; simp [List.getD, hlt])
        rw [HLF.out] at HK
        generalize es[j] = y at *
        rw [hj] at HO HK
        rw [hj] at HL ⊢
        have HJ := Lib.hid hj
        clear hj hlt hne hlf hz
        have k1 : w.cell? ⟨g, j * 3, none⟩ = some (.int .i64 y.f) := (HO.out.cellAt (j * 3) (by omega)).trans F1
        clear F1 F2 F3
        go_enter Tryz.func149, Tryz.ntmps149
        go_wp2_with (first | (go_at_call 84; refine (HP.out _).mono ?_; rintro e w1 ⟨rfl, rfl⟩) | (go_at_call 184; refine (HK.out _).mono ?_; rintro e w2 ⟨rfl, rfl⟩) | (go_at_call 185; refine (HT.out _ (((HO.out.alloc _).alloc _).alloc _) (by simp; omega) hn2).mono ?_; rintro e w3 ⟨v3, rfl, hown3, hgr3, hfr3⟩; (obtain ⟨ao3, cap3, rfl, -⟩ := Cel.of_owns hown3; have HR3 := Lib.hid (((C2.newAt (w.alloc (gObj gn _)) 53 (.int .i64 0) (.slice none 0 0) (show _ = w.heap.size + 1 by simp)).go (Below.of_al _ _)).grown hgr3 (fun e => by have := (HL.out _ e.symm).2; omega)); have HO3 := Lib.hid hown3; have HW3 := Lib.hid (grown_trans (grown_below _ (((Below.of_al w (gObj gn _)).al (gObj 0 (.slice none 0 0))).al (gObj gn _))) hgr3); have HB3 := Lib.hid hfr3; clear hown3 hgr3 hfr3; obtain ⟨q0, q1, z0, z1⟩ := HR3.out)))
        have HF := (C2.newAt (w.alloc (gObj gn (.slice (some ⟨g, 0, none⟩) (j + 1) cap))) 53 (.int .i64 gn) (.slice (some ⟨g, 0, none⟩) (j + 1) cap) (show _ = w.heap.size + 1 by simp)).go (Below.of_al _ (gObj gn (.slice (some ⟨g, 0, none⟩) (j + 1) cap)))
        obtain ⟨r0, r1, -, -⟩ := HF
        refine bodyPost_ret (by simp [results, Tryz.results149, go_sem, r0, r1]; try rfl) rfl ?_
        rw [HN.out]
        exact ⟨_, rfl, (by rw [HJ.out]; exact ((HO.out.alloc _).alloc _).alloc _), grown_below _ (((Below.of_al _ _).al _).al _), fun _ h => .inl h⟩
  · have HN := Lib.hid (show numR gn es k (n, pf) = (gn, es, 0, 3) from if_pos hpf)
    have hpf' : (pf != 0) = true := by simpa using hpf
    generalize numR gn es k (n, pf) = r at *
    go_enter Tryz.func149, Tryz.ntmps149
    go_wp2_with (go_at_call 84; refine (HP.out _).mono ?_; rintro e w1 ⟨rfl, rfl⟩)
    have HF := (C2.newAt (w.alloc (gObj gn (.slice ao es.length cap))) 53 (.int .i64 gn) (.slice ao es.length cap) (show _ = w.heap.size + 1 by simp))
    obtain ⟨r0, r1, -, -⟩ := HF
    refine bodyPost_ret (by simp [results, Tryz.results149, go_sem, r0, r1]; try rfl) rfl ?_
    rw [HN.out]
    exact ⟨_, rfl, (HO.out.alloc _).alloc _, grown_below _ ((Below.of_al _ _).al _), fun _ h => .inl h⟩

end Go.Proofs.YtelcmkccfjdmjaaGreatDoor
