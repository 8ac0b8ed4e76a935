/- HeightCalls: the walk. -/
import Derived.Test.YtcbkijeonilcjaaGreatHC48
namespace Go.Proofs.YtcbkijeonilcjaaGreat
open Go.RowKit Ieee

attribute [local go_sem] run_store_float

/-- what heights answer, program and reference alike -/
structure Ans (p : Pd) (t : Int) (H B S1 S2 : Nat) : Prop where
  fH : Fn H 1024
  fB : Fn B 1024
  f1 : Fn S1 1024
  f2 : Fn S2 1024
  at1 : ∀ w v, PdR w v p → Calls Tryz.prog 11 #[v, .int .i64 t] w fun e w' => e = .returned (.tuple #[.agg #[.float .f64 H, .float .f64 B], .int .i64 (p.tickE t)]) ∧ Below w.heap.size w w'
  at2 : ∀ w v, PdR w v p → Calls Tryz.prog 12 #[v, .int .i64 t] w fun e w' => e = .returned (.tuple #[.agg #[.float .f64 H, .float .f64 B], .int .i64 (p.tickE t)]) ∧ Below w.heap.size w w'
  s1 : ∀ w v, PdR w v p → Calls Tryz.prog 13 #[v, .int .i64 t] w fun e w' => e = .returned (.tuple #[.complex .f64 S1 S2, .int .i64 (p.tickE t)]) ∧ Below w.heap.size w w'
  s2 : ∀ w v, PdR w v p → Calls Tryz.prog 14 #[v, .int .i64 t] w fun e w' => e = .returned (.tuple #[.complex .f64 S1 S2, .int .i64 (p.tickE t)]) ∧ Below w.heap.size w w'
theorem fn_num {b : Nat} {a : Rat} (h : Num b false a) : Fn b 1024 := by
  have h1 := (num_rung h).2.2.2
  refine Fn.of ⟨false, a, h, rfl⟩ ((wi_sgq (u := false) h.nonneg).2 ?_)
  have e : p2 1024 = 9007199254740992 * p2 971 := by
    rw [show (1024 : Int) = 53 + 971 from rfl, p2_add, show p2 53 = 9007199254740992 from by decide +kernel]
  rw [e]
  have := p2_pos 971
  grind
theorem ans_of {p : Pd} (hl : PdL p) (t : Int) : ∃ H B S1 S2, Ans p t H B S1 S2 := by
  by_cases hE : p.tickE t = 0
  · obtain ⟨P, hN⟩ := PdN.of hl (tickE_zero hE).1
    obtain ⟨hP, h0, h1⟩ := hN.oks hE
    obtain ⟨n, rfl⟩ : ∃ n : Nat, t = (n : Int) := ⟨t.toNat, by omega⟩
    obtain ⟨a, ha, _⟩ := hP.bnd
    have hl24 := hP.2.2.1
    have f0 := (fn_flo hP.2.1 (by decide) (by decide)).2.1
    have g1 := hgt_fn n f0 hP.2.2.2 P.ts.length (Nat.le_refl _) (by omega)
    have g2 := hgt_fn n (fn_zero 500) hP.2.2.2 P.ts.length (Nat.le_refl _) (by omega)
    have g3 := smI_fn n hP.2.2.2 P.ts.length (Nat.le_refl _) (by omega)
    rw [List.take_length] at g1 g2 g3
    refine ⟨_, _, _, _, g1.mono (by omega), fn_num ha, g2.mono (by omega), g3.mono (by omega), fun w v h => ?_, fun w v h => ?_, fun w v h => ?_, fun w v h => ?_⟩
    · rw [hE]; exact height_At_ok w h hN hE
    · rw [hE]; exact ref16_At_ok w h hN hE
    · rw [hE]; exact height_Sum_ok w h hN hE
    · rw [hE]; exact ref16_Sum_ok w h hN hE
  · exact ⟨0, 0, 0, 0, fn_zero _, fn_zero _, fn_zero _, fn_zero _, fun w v h => height_At_no w h hE, fun w v h => ref16_At_no w h hE, fun w v h => height_Sum_no w h hE, fun w v h => ref16_Sum_no w h hE⟩
theorem PdR.shape {w : World} {v : Value} {p : Pd} (h : PdR w v p) : ∃ nm g A n c A' n' c' B k d, v = .agg #[.string nm, .bool g, .slice A n c, .slice A' n' c', .slice B k d] := by
  obtain ⟨_, A, n, c, A', n', c', B, k, d, e, _⟩ := h
  exact ⟨_, _, A, n, c, A', n', c', B, k, d, e⟩
theorem smB_le {n m : Nat} (hm : m ≤ 100) (h : smB n m = true) : n ≤ 100000 := by
  unfold smB at h
  simp only [Bool.or_eq_true, Bool.and_eq_true, decide_eq_true_eq] at h
  omega
theorem small_pds {p : Pd} {m : Nat} (hm : m ≤ 100) (h : p.small m = true) : PdS p := by
  unfold Pd.small Pd.few at h
  simp only [Bool.and_eq_true, List.all_eq_true] at h
  obtain ⟨h1, ⟨h2, h3⟩, h4⟩ := h
  refine ⟨smB_le hm h2, smB_le hm h3, ?_, fun T hT => ?_⟩
  · simp at h1
    omega
  · have := h4 T hT
    unfold Td.small at this
    simp only [Bool.and_eq_true] at this
    exact ⟨⟨smB_le hm this.1.1, smB_le hm this.1.2⟩, smB_le hm this.2.1, smB_le hm this.2.2⟩
set_option maxRecDepth 100000 in
set_option maxHeartbeats 4000000 in
theorem law_HeightCalls {v : Value} {p : Pd} (t : Int) (w : World) (h : PdR w v p) :
    Calls Tryz.prog 3 #[v, .int .i64 t] w fun e w' => e = .returned (.bool true) ∧ Below w.heap.size w w' := by
  have HP := Lib.hid h
  obtain ⟨H, B, S1, S2, hans⟩ := ans_of h.lim t
  have HAN := Lib.hid hans
  obtain ⟨x0, x1, x2, x3, x4, hv⟩ := h.chk.agg
  have HN := Lib.hid (fun w' v' (hp : PdR w' v' p) => height_Near w' ⟨hp.chk, trivial⟩)
  have HN2 := Lib.hid (fun w' v' (hp : PdR w' v' p) => ref16_Near w' ⟨hp.chk, trivial⟩)
  clear h hans
  subst hv
  obtain ⟨W0, hW0⟩ : ∃ W, w.alloc (.cells #[x0, x1, x2, x3, x4] 27) = W := ⟨_, rfl⟩
  have hb0 : Below w.heap.size w W0 := by rw [← hW0]; exact (Below.refl _ _).alloc (Nat.le_refl _) _
  have j0 : W0.heap[w.heap.size]? = some (.cells #[x0, x1, x2, x3, x4] 27) := by rw [← hW0]; exact heap_alloc_new w _
  have HA := Lib.hid (And.intro hb0 j0)
  obtain ⟨z0, z1, z2, z3, z4⟩ := cell5 j0
  clear hb0 j0
  have HSM := Lib.hid (law16_Small 20 W0 (HP.out.below HA.out.1))
  cases hsm : p.small 20
  · rw [hsm] at HSM
    clear hsm
    go_enter Tryz.func3, Tryz.ntmps3
    go_wp2_with fail
    have HW0 := Lib.hid hW0
    clear hW0
    refine HSM.out.mono ?_
    rintro e w1 ⟨rfl, hB⟩
    have HB := Lib.hid (bel_step HA.out.1 hB)
    clear hB z0 z1 z2 z3 z4
    go_wp2_with fail
    go_ret
    exact ⟨rfl, HB.out⟩
  · have HS := Lib.hid (small_pds (by omega) hsm)
    rw [hsm] at HSM
    clear hsm
    by_cases ht : 60 < t ∧ t ≤ 1024
    · obtain ⟨t1, t2⟩ := ht
      go_enter Tryz.func3, Tryz.ntmps3
      go_wp2_with fail
      have HW0 := Lib.hid hW0
      clear hW0
      refine HSM.out.mono ?_
      rintro e w1 ⟨rfl, hB⟩
      have HB := Lib.hid (bel_step HA.out.1 hB)
      clear hB z0 z1 z2 z3 z4
      go_wp2_with fail
      go_ret
      exact ⟨rfl, HB.out⟩
    · have hx : t ≤ 60 ∨ (60 < t ∧ 1024 < t) := by omega
      clear ht
      rcases hx with hx | ⟨hx, hy0⟩
      rotate_left
      have hy : decide (t ≤ 1024) = false := by simp; omega
      have hy2 : (t ≤ 1024) = False := by simp; omega
      rotate_left
      all_goals
        go_enter Tryz.func3, Tryz.ntmps3
        go_wp2_with fail
        have HW0 := Lib.hid hW0
        clear hW0
        refine HSM.out.mono ?_
        rintro e w1 ⟨rfl, hB⟩
        have HB := Lib.hid (And.intro (bel_step HA.out.1 hB) (blk_below hB HA.out.2))
        clear hB z0 z1 z2 z3 z4
        obtain ⟨z0, z1, z2, z3, z4⟩ := cell5 HB.out.2
        go_wp2_with fail
        refine (kit_LentPort w1 (HP.out.below HB.out.1) HS.out).mono ?_
        rintro e w2 ⟨q, rfl, hq, hB⟩
        obtain ⟨qn, qg, Q1, q1, d1, Q2, q2, d2, Q3, q3, d3, hqs⟩ := (hq.pdr HP.out).shape
        subst hqs
        obtain ⟨W3, hW3⟩ : ∃ W, w2.alloc (.cells #[.string qn, .bool qg, .slice Q1 q1 d1, .slice Q2 q2 d2, .slice Q3 q3 d3] 27) = W := ⟨_, rfl⟩
        have hb3 : Below w2.heap.size w2 W3 := by rw [← hW3]; exact (Below.refl _ _).alloc (Nat.le_refl _) _
        have j3 : W3.heap[w2.heap.size]? = some (.cells #[.string qn, .bool qg, .slice Q1 q1 d1, .slice Q2 q2 d2, .slice Q3 q3 d3] 27) := by rw [← hW3]; exact heap_alloc_new w2 _
        have H3 := Lib.hid (And.intro (bel_step (bel_step HB.out.1 hB) hb3) (And.intro (blk_below hb3 (blk_below hB HB.out.2)) (And.intro j3 (hq.below hb3))))
        have hlw : w.heap.size < w2.heap.size := heap_lt (blk_below hB HB.out.2)
        obtain ⟨M3, hM3⟩ : ∃ m, w2.heap.size = m := ⟨_, rfl⟩
        rw [hM3] at H3 hlw
        clear hB hq hb3 j3 z0 z1 z2 z3 z4
        go_upto_region 4 with fail
        have HW3 := Lib.hid (And.intro hW3 hM3)
        clear hW3 hM3
        obtain ⟨z0, z1, z2, z3, z4⟩ := cell5 H3.out.2.2.1
        go_wp2_with fail
        refine (HAN.out.at1 W3 _ (H3.out.2.2.2.pdr HP.out)).mono ?_
        rintro e w4 ⟨rfl, hB⟩
        obtain ⟨W5, hW5⟩ : ∃ W, w4.alloc (.cells #[.float .f64 H, .float .f64 B] 32) = W := ⟨_, rfl⟩
        have hb5 : Below w4.heap.size w4 W5 := by rw [← hW5]; exact (Below.refl _ _).alloc (Nat.le_refl _) _
        have j5 : W5.heap[w4.heap.size]? = some (.cells #[.float .f64 H, .float .f64 B] 32) := by rw [← hW5]; exact heap_alloc_new w4 _
        have hbb := bel_step hB hb5
        have H5 := Lib.hid (And.intro (bel_step H3.out.1 hbb) (And.intro (blk_below hbb H3.out.2.1) (And.intro (blk_below hbb H3.out.2.2.1) (And.intro (H3.out.2.2.2.below hbb) j5))))
        have hlw5 : M3 < w4.heap.size := heap_lt (blk_below hB H3.out.2.2.1)
        obtain ⟨M5, hM5⟩ : ∃ m, w4.heap.size = m := ⟨_, rfl⟩
        rw [hM5] at H5 hlw5
        clear hB hb5 hbb j5 z0 z1 z2 z3 z4
        go_upto_region 5 with fail
        have HW5 := Lib.hid (And.intro hW5 hM5)
        clear hW5 hM5
        obtain ⟨z0, z1, z2, z3, z4⟩ := cell5 H5.out.2.1
        go_wp2_with fail
        refine (HAN.out.at2 W5 _ (HP.out.below H5.out.1)).mono ?_
        rintro e w6 ⟨rfl, hB⟩
        obtain ⟨W7, hW7⟩ : ∃ W, w6.alloc (.cells #[.float .f64 H, .float .f64 B] 32) = W := ⟨_, rfl⟩
        have hb7 : Below w6.heap.size w6 W7 := by rw [← hW7]; exact (Below.refl _ _).alloc (Nat.le_refl _) _
        have j7 : W7.heap[w6.heap.size]? = some (.cells #[.float .f64 H, .float .f64 B] 32) := by rw [← hW7]; exact heap_alloc_new w6 _
        have hbb := bel_step hB hb7
        have H7 := Lib.hid (And.intro (bel_step H5.out.1 hbb) (And.intro (blk_below hbb H5.out.2.1) (And.intro (blk_below hbb H5.out.2.2.1) (And.intro (H5.out.2.2.2.1.below hbb) (And.intro (blk_below hbb H5.out.2.2.2.2) j7)))))
        have hlw7 : M5 < w6.heap.size := heap_lt (blk_below hB H5.out.2.2.2.2)
        obtain ⟨M7, hM7⟩ : ∃ m, w6.heap.size = m := ⟨_, rfl⟩
        rw [hM7] at H7 hlw7
        clear hB hb7 hbb j7 z0 z1 z2 z3 z4
        go_upto_region 6 with fail
        have HW7 := Lib.hid (And.intro hW7 hM7)
        clear hW7 hM7
        obtain ⟨z0, z1, z2, z3, z4⟩ := cell5 H7.out.2.2.1
        go_wp2_with fail
        refine (HAN.out.s1 W7 _ (H7.out.2.2.2.1.pdr HP.out)).mono ?_
        rintro e w8 ⟨rfl, hB⟩
        have H8 := Lib.hid (And.intro (bel_step H7.out.1 hB) (And.intro (blk_below hB H7.out.2.1) (And.intro (blk_below hB H7.out.2.2.1) (And.intro (H7.out.2.2.2.1.below hB) (And.intro (blk_below hB H7.out.2.2.2.2.1) (blk_below hB H7.out.2.2.2.2.2))))))
        clear hB z0 z1 z2 z3 z4
        obtain ⟨z0, z1, z2, z3, z4⟩ := cell5 H8.out.2.1
        go_wp2_with fail
        refine (HAN.out.s2 w8 _ (HP.out.below H8.out.1)).mono ?_
        rintro e w9 ⟨rfl, hB⟩
        have H9 := Lib.hid (And.intro (bel_step H8.out.1 hB) (And.intro (blk_below hB H8.out.2.1) (And.intro (blk_below hB H8.out.2.2.1) (And.intro (H8.out.2.2.2.1.below hB) (And.intro (blk_below hB H8.out.2.2.2.2.1) (blk_below hB H8.out.2.2.2.2.2))))))
        clear hB z0 z1 z2 z3 z4
        have HF := Lib.hid (fun w' (hB : Below w9.heap.size w9 w') => (show (w'.cell? ⟨M5, 0, none⟩ = some (.float .f64 H) ∧ w'.cell? ⟨M5, 1, none⟩ = some (.float .f64 B)) ∧ (w'.cell? ⟨M7, 0, none⟩ = some (.float .f64 H) ∧ w'.cell? ⟨M7, 1, none⟩ = some (.float .f64 B)) ∧ (w'.cell? ⟨M3, 0, none⟩ = some (.string qn) ∧ w'.cell? ⟨M3, 1, none⟩ = some (.bool qg) ∧ w'.cell? ⟨M3, 2, none⟩ = some (.slice Q1 q1 d1) ∧ w'.cell? ⟨M3, 3, none⟩ = some (.slice Q2 q2 d2) ∧ w'.cell? ⟨M3, 4, none⟩ = some (.slice Q3 q3 d3)) ∧ (w'.cell? ⟨w.heap.size, 0, none⟩ = some x0 ∧ w'.cell? ⟨w.heap.size, 1, none⟩ = some x1 ∧ w'.cell? ⟨w.heap.size, 2, none⟩ = some x2 ∧ w'.cell? ⟨w.heap.size, 3, none⟩ = some x3 ∧ w'.cell? ⟨w.heap.size, 4, none⟩ = some x4) from by
          obtain ⟨a0, a1, _, _⟩ := cell2 (blk_below hB H9.out.2.2.2.2.1)
          obtain ⟨b0, b1, _, _⟩ := cell2 (blk_below hB H9.out.2.2.2.2.2)
          exact ⟨⟨a0, a1⟩, ⟨b0, b1⟩, cell5 (blk_below hB H9.out.2.2.1), cell5 (blk_below hB H9.out.2.1)⟩))
        have HS1 := Lib.hid (fun w' => law16_sameOff w' HAN.out.fH HAN.out.fB)
        have HS2 := Lib.hid (fun w' => kit_SameNumber w' HAN.out.f1 HAN.out.f2)
        have HS3 := Lib.hid (fun w' (hB : Below w9.heap.size w9 w') => HN.out w' _ ((H9.out.2.2.2.1.below hB).pdr HP.out))
        have HS4 := Lib.hid (fun w' (hB : Below w9.heap.size w9 w') => HN2.out w' _ (HP.out.below (bel_step H9.out.1 hB)))
        have HS5 := Lib.hid (fun w' (hB : Below w9.heap.size w9 w') => kit_KeptPort w' (H9.out.2.2.2.1.below hB) (HP.out.below (bel_step H9.out.1 hB)) HS.out)
        generalize p.tickE t = E at *
        generalize nearE p.fault.1 p.near = E2 at *
        go_upto_region 8 with fail
        have hBs : Below w9.heap.size w9 w9.drew := below_drewN (Below.refl _ _) 1
        go_region_held3 (fun w' => (w'.cell? ⟨M5, 0, none⟩ = some (.float .f64 H) ∧ w'.cell? ⟨M5, 1, none⟩ = some (.float .f64 B)) ∧ (w'.cell? ⟨M7, 0, none⟩ = some (.float .f64 H) ∧ w'.cell? ⟨M7, 1, none⟩ = some (.float .f64 B)) ∧ (w'.cell? ⟨M3, 0, none⟩ = some (.string qn) ∧ w'.cell? ⟨M3, 1, none⟩ = some (.bool qg) ∧ w'.cell? ⟨M3, 2, none⟩ = some (.slice Q1 q1 d1) ∧ w'.cell? ⟨M3, 3, none⟩ = some (.slice Q2 q2 d2) ∧ w'.cell? ⟨M3, 4, none⟩ = some (.slice Q3 q3 d3)) ∧ (w'.cell? ⟨w.heap.size, 0, none⟩ = some x0 ∧ w'.cell? ⟨w.heap.size, 1, none⟩ = some x1 ∧ w'.cell? ⟨w.heap.size, 2, none⟩ = some x2 ∧ w'.cell? ⟨w.heap.size, 3, none⟩ = some x3 ∧ w'.cell? ⟨w.heap.size, 4, none⟩ = some x4))
          (first
            | with_reducible exact HF.out _ hBs
            | with_reducible exact HF.out _ hBc1
            | with_reducible exact HF.out _ hBc2
            | with_reducible exact HF.out _ hBc3
            | with_reducible exact HF.out _ hBc4
            | with_reducible exact HF.out _ hBc5)
          (first
            | (go_at_call 15; (with_reducible refine (HS1.out _).mono ?_); rintro e v1 ⟨rfl, hB1⟩; have hBc1 := bel_step hBs hB1)
            | (go_at_call 16; (with_reducible refine (HS2.out _).mono ?_); rintro e v2 ⟨rfl, rfl⟩; have hBc2 := hBc1)
            | (go_at_call 17; (with_reducible refine (HS3.out _ hBc2).mono ?_); rintro e v3 ⟨rfl, hB3⟩; have hBc3 := bel_step hBc2 hB3)
            | (go_at_call 18; (with_reducible refine (HS4.out _ hBc3).mono ?_); rintro e v4 ⟨rfl, hB4⟩; have hBc4 := bel_step hBc3 hB4)
            | (go_at_call 19; (with_reducible refine (HS5.out _ hBc4).mono ?_); rintro e v5 ⟨rfl, hB5⟩; have hBc5 := bel_step hBc4 hB5))
        have HFin := Lib.hid (bel_step H9.out.1 hBc5)
        clear hBs hBc1 hBc2 hBc3 hBc4 hBc5 hB1 hB3 hB4 hB5
        go_wp2_with fail
        go_ret
        exact ⟨rfl, HFin.out⟩
end Go.Proofs.YtcbkijeonilcjaaGreat
