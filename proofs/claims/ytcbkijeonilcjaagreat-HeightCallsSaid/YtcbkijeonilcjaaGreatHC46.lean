/- height: a constituent's number at a tick, the height, the sum. -/
import Derived.Test.YtcbkijeonilcjaaGreatHC40
namespace Go.Proofs.YtcbkijeonilcjaaGreat
open Go.RowKit Ieee

attribute [local go_sem] run_store_float
set_option maxRecDepth 100000 in
set_option maxHeartbeats 1000000 in
theorem work_product {b : Nat} {P : Pn} (i t : Nat) (w : World) (h : WkR w b P) (hP : P.ok) (hi : i < P.ts.length) (ht : t ≤ 1024) :
    Calls Tryz.prog 55 #[.pointer (some ⟨b, 0, none⟩), .int .i64 i, .int .i64 t] w fun e w' => e = .returned (.complex .f64 (P.ts[i].pr t) (P.ts[i].pi t)) ∧ Below w.heap.size w w' := by
  obtain ⟨nm, g, A, n, c, A', n', c', B, k, d, Z, cz, h1, h2, h3⟩ := h.box
  have hk : i < k := by rw [← h2.len]; exact hi
  have hk24 := h2.big.1
  have hcap := h2.cap
  have hcapz := h3.cap.1
  obtain ⟨bt, ot, rfl, hcel⟩ := h2.cell (by omega)
  obtain ⟨bz, oz, rfl, hcz⟩ := h3.cell (by omega)
  obtain ⟨tnm, A1, c1, A1', c1', A2, c2, A2', c2', ⟨q0, q1, q2, q3, q4, q5, q6, q7, q8⟩, hR1⟩ := (hcel i hi).agg
  have hz := hcz i hi
  obtain ⟨y0, y1, y2, y3, y4, y5, y6, y7⟩ := cell8 h1
  have hT := hP.2.2.2 _ (List.getElem_mem hi)
  generalize P.ts[i] = T at *
  have HT := Lib.hid hT
  have HP := Lib.hid (fun w' => rotor_Power T.far T.near t w' hT.1 ht)
  have HPF := Lib.hid (And.intro (pw_fits hT ht) (pw_wi hT t))
  have HPR := Lib.hid (hT.pr t)
  have HQ := Lib.hid (And.intro h1 hz)
  have ht1 : (t : Int) ≤ 1024 := by omega
  clear hT h hP hcel hcz h1 h2 h3 hz hR1 q0 q3 q4 q5 q6 q7 q8 hi
  go_enter Tryz.func55, Tryz.ntmps55
  go_wp2_with fail
  refine (HP.out w).mono ?_
  rintro e w1 ⟨v, rfl, hG, hB1⟩
  obtain ⟨P1, e1, P1', e1', P2, e2, P2', e2', rfl, hG1⟩ := hG.rd.six
  obtain ⟨W2, hW2⟩ : ∃ x, w1.alloc (.cells #[.bool (rneg (T.pw t).1), .slice P1 (wl (rnum (T.pw t).1)) e1, .slice P1' (wl (T.pw t).1.den) e1', .bool (rneg (T.pw t).2), .slice P2 (wl (rnum (T.pw t).2)) e2, .slice P2' (wl (T.pw t).2.den) e2'] 83) = x := ⟨_, rfl⟩
  have hb2 : Below w1.heap.size w1 W2 := by rw [← hW2]; exact (Below.refl _ _).alloc (Nat.le_refl _) _
  have hk2 : W2.heap[w1.heap.size]? = some (.cells #[.bool (rneg (T.pw t).1), .slice P1 (wl (rnum (T.pw t).1)) e1, .slice P1' (wl (T.pw t).1.den) e1', .bool (rneg (T.pw t).2), .slice P2 (wl (rnum (T.pw t).2)) e2, .slice P2' (wl (T.pw t).2.den) e2'] 83) := by rw [← hW2]; exact heap_alloc_new w1 _
  have HB2 := Lib.hid (And.intro (bel_step hB1 hb2) (hG1 W2 hb2))
  obtain ⟨⟨x0, x1, x2⟩, x3, x4, x5⟩ := cell6 hk2
  clear hb2 hk2 hG hG1 hB1 y0 y1 y2 y3 y4 y5 y6 y7 q1 q2
  rw [show cpw (rotZ T.far T.near) t = T.pw t from rfl]
  go_upto_region 2 with fail
  have HW2 := Lib.hid hW2
  clear hW2
  go_wp2_with fail
  refine (parts_NearestW W2 HB2.out.2 HPF.out.1.1 HPF.out.1.2 HPF.out.2.1 HPF.out.2.2).mono ?_
  rintro e w3 ⟨rfl, hB3⟩
  have hB03 := bel_step HB2.out.1 hB3
  have hcc : ∀ {a : Addr} {v : Value}, w.cell? a = some v → w3.cell? a = some v := fun {a v} e => by rw [hB03.cell (World.block_lt_of_cell? w _ e)]; exact e
  have hz := hcc HQ.out.2
  unfold zCell at hz
  obtain ⟨y0, y1, y2, y3, y4, y5, y6, y7⟩ := cell8 (blk_below hB03 HQ.out.1)
  have HB3 := Lib.hid hB03
  clear hB3 hB03 hcc x0 x1 x2 x3 x4 x5
  go_wp2_with fail
  refine (parts_Mul _ HPR.out.m1 HPR.out.m2 HPR.out.m3 HPR.out.m4 HPR.out.re HPR.out.im).mono ?_
  rintro e w5 ⟨rfl, rfl⟩
  go_wp2_with fail
  go_ret
  exact ⟨rfl, HB3.out⟩
def offT : TypeId := 32
set_option maxRecDepth 100000 in
set_option maxHeartbeats 1000000 in
theorem work_at {b : Nat} {P : Pn} (t : Nat) (w : World) (h : WkR w b P) (hP : P.ok) (ht : t ≤ 1024) :
    Calls Tryz.prog 51 #[.pointer (some ⟨b, 0, none⟩), .int .i64 t] w fun e w' => e = .returned (.agg #[.float .f64 (hgt (flW P.mean) P.ts t), .float .f64 P.bnd]) ∧ Below w.heap.size w w' := by
  obtain ⟨W0, hW0⟩ : ∃ x, w.alloc (.cells #[.float .f64 0, .float .f64 0] 32) = x := ⟨_, rfl⟩
  have hb0 : Below w.heap.size w W0 := by rw [← hW0]; exact (Below.refl _ _).alloc (Nat.le_refl _) _
  have hk0 : W0.heap[w.heap.size]? = some (.cells #[.float .f64 0, .float .f64 0] 32) := by rw [← hW0]; exact heap_alloc_new w _
  have HH := Lib.hid h
  have HP := Lib.hid hP
  have HFM := Lib.hid (fn_flo hP.2.1 (by decide) (by decide)).2.1
  have ht1 : (t : Int) ≤ 1024 := by omega
  have HPW := Lib.hid (fun (i : Nat) w' (hb : Below w.heap.size w w') (hi : i < P.ts.length) => work_product i t w' (h.below hb) hP hi ht)
  obtain ⟨nm, g, A, n, c, A', n', c', B, k, d, Z, cz, h1, h2, h3⟩ := h.box
  have HL := Lib.hid h2.len
  have hk24 := h2.big.1
  have hcapz := h3.cap.1
  have HA := Lib.hid (And.intro hb0 (And.intro hk0 h1))
  obtain ⟨y0, y1, y2, y3, y4, y5, y6, y7⟩ := cell8 (blk_below hb0 h1)
  clear hb0 hk0 h hP h1 h2 h3
  go_enter Tryz.func51, Tryz.ntmps51
  go_wp2_with fail
  have HW0 := Lib.hid hW0
  clear hW0 y0 y1 y2 y3 y4 y5 y6 y7
  go_loopg [5, 16] k (fun g' hv iv wr => ∃ i : Nat, iv = .int .i64 i ∧ i + g' = k ∧ hv = .float .f64 (hgt (flW P.mean) (P.ts.take i) t) ∧ Below w.heap.size w wr ∧ wr.heap[w.heap.size]? = some (.cells #[.float .f64 0, .float .f64 0] 32 (0, 0)))
  case atStart => exact ⟨0, rfl, by omega, rfl, HA.out.1, HA.out.2.1⟩
  case round =>
    obtain ⟨i, rfl, hi, rfl, hN1, hN2⟩ := hrel
    have KK := Lib.hid (And.intro hN1 hN2)
    clear hN1 hN2
    by_cases hin : i < k
    · have hil : i < P.ts.length := by rw [HL.out]; exact hin
      have HTO := Lib.hid (HP.out.2.2.2 _ (List.getElem_mem hil))
      have HST := Lib.hid (hgt_step t HFM.out HP.out.2.2.2 i hil (by rw [HL.out]; omega))
      have HPW1 := Lib.hid (HPW.out i wr KK.out.1 hil)
      go_wp2_with fail
      refine HPW1.out.mono ?_
      rintro e w1 ⟨rfl, hB1⟩
      have K1 := Lib.hid (And.intro (bel_step KK.out.1 hB1) (blk_below hB1 KK.out.2))
      have hadd := fun w => run_float_arith (P := Tryz.prog) (w := w) .add 30 .f64 _ _ _ HST.out
      clear hB1
      go_wp2_with fail
      go_roundg (k - (i + 1))
      case measure => omega
      case rel => exact ⟨i + 1, by simp, by omega, rfl, K1.out⟩
    · have hin2 : i = k := by omega
      have HTK : Hid (hgt (flW P.mean) (P.ts.take i) t = hgt (flW P.mean) P.ts t) := by show _ = _; rw [hin2, ← HL.out, List.take_length]
      rw [HTK.out]
      obtain ⟨y0, y1, y2, y3, y4, y5, y6, y7⟩ := cell8 ((KK.out.1.block _ (heap_lt HA.out.2.2)).trans HA.out.2.2)
      obtain ⟨r0, r1, r2, r3⟩ := cell2 KK.out.2
      clear hin2 hi
      go_wp2_with fail
      exact bodyPost_ret (v := .agg #[.float .f64 (hgt (flW P.mean) P.ts t), .float .f64 P.bnd]) (by simp [results, Tryz.results51, go_sem, *]) rfl ⟨rfl, below_set2 KK.out.1 (Nat.le_refl _) _ _⟩
end Go.Proofs.YtcbkijeonilcjaaGreat

/- height.At, height.Sum. -/
namespace Go.Proofs.YtcbkijeonilcjaaGreat
open Go.RowKit Ieee

attribute [local go_sem] run_store_float
theorem tickE_zero {f : Int} {nr : Bool} {t : Int} (h : tickE f nr t = 0) : f = 0 ∧ nr = true ∧ 0 ≤ t ∧ t ≤ 1024 := by
  unfold tickE at h
  split at h
  · exfalso
    unfold askE at h
    split at h
    · contradiction
    · rw [if_pos (by omega)] at h
      cases h
  · unfold askE at h
    split at h
    · contradiction
    · split at h
      · cases h
      · rename_i h1 h2 h3
        refine ⟨by omega, ?_, by omega, by omega⟩
        cases nr
        · cases h
        · rfl
theorem PdN.oks {p : Pd} {P : Pn} {t : Int} (h : PdN p P) (hE : p.tickE t = 0) : P.ok ∧ 0 ≤ t ∧ t ≤ 1024 := by
  obtain ⟨_, h2, h3, h4⟩ := tickE_zero hE
  rw [h.near] at h2
  exact ⟨h.ok h2, h3, h4⟩
set_option maxRecDepth 100000 in
set_option maxHeartbeats 1000000 in
theorem height_At_no {v : Value} {p : Pd} {t : Int} (w : World) (h : PdR w v p) (hE : p.tickE t ≠ 0) :
    Calls Tryz.prog 11 #[v, .int .i64 t] w fun e w' => e = .returned (.tuple #[.agg #[.float .f64 0, .float .f64 0], .int .i64 (p.tickE t)]) ∧ Below w.heap.size w w' := by
  have HCK := Lib.hid h.chk
  obtain ⟨x0, x1, x2, x3, x4, hv⟩ := h.chk.agg
  have HPD := Lib.hid h
  clear h
  subst hv
  obtain ⟨W0, hW0⟩ : ∃ x, (w.alloc (.cells #[x0, x1, x2, x3, x4] 27)).alloc (.cells #[.float .f64 0, .float .f64 0] 32) = x := ⟨_, rfl⟩
  have hb0 : Below w.heap.size w W0 := by rw [← hW0]; exact ((Below.refl _ _).alloc (Nat.le_refl _) _).alloc (by simp) _
  have hk : W0.heap[w.heap.size]? = some (.cells #[x0, x1, x2, x3, x4] 27) := by rw [← hW0]; exact alloc_keep (heap_alloc_new w _) _
  have hk1 : W0.heap[w.heap.size + 1]? = some (.cells #[.float .f64 0, .float .f64 0] 32) := by rw [← hW0]; exact heap_new _ (by simp)
  have HA := Lib.hid (And.intro hb0 (And.intro hk hk1))
  have HT := Lib.hid (fun w' (hb : Below w.heap.size w w') => height_tick t w' ⟨HCK.out.below hb, trivial⟩)
  change Hid (∀ w', Below w.heap.size w w' → Calls _ _ _ w' (fun e w'' => e = .returned (.int .i64 (p.tickE t)) ∧ Below w'.heap.size w' w'')) at HT
  obtain ⟨z0, z1, z2, z3, z4⟩ := cell5 hk
  have e1 : (p.tickE t != 0) = true := by simp [hE]
  clear hb0 hk hk1
  generalize p.tickE t = E at *
  go_enter Tryz.func11, Tryz.ntmps11
  go_wp2_with fail
  have HW0 := Lib.hid hW0
  clear hW0
  refine (HT.out W0 HA.out.1).mono ?_
  rintro e w1 ⟨rfl, hB1⟩
  have HB1 := Lib.hid (bel_step HA.out.1 hB1)
  obtain ⟨r0, r1, r2, r3⟩ := cell2 (blk_below hB1 HA.out.2.2)
  clear hB1 z0 z1 z2 z3 z4
  go_wp2_with fail
  exact bodyPost_ret (v := .tuple #[.agg #[.float .f64 0, .float .f64 0], .int .i64 E]) (by simp [results, Tryz.results11, go_sem, *]) rfl ⟨rfl, below_set2 HB1.out (Nat.le_succ _) _ _⟩
set_option maxRecDepth 100000 in
set_option maxHeartbeats 1000000 in
theorem height_At_ok {v : Value} {p : Pd} {P : Pn} {t : Nat} (w : World) (h : PdR w v p) (hN : PdN p P) (hE : p.tickE t = 0) :
    Calls Tryz.prog 11 #[v, .int .i64 t] w fun e w' => e = .returned (.tuple #[.agg #[.float .f64 (hgt (flW P.mean) P.ts t), .float .f64 P.bnd], .int .i64 0]) ∧ Below w.heap.size w w' := by
  have HOK := Lib.hid (hN.oks hE)
  have HBG := Lib.hid (fun w' (hb : Below w.heap.size w w') => height_begun w' ((h.num hN).below hb) HOK.out.1)
  have HWA := Lib.hid (fun b w' (hw : WkR w' b P) => work_at t w' hw HOK.out.1 (by have := HOK.out.2; omega))
  have HCK := Lib.hid h.chk
  obtain ⟨x0, x1, x2, x3, x4, hv⟩ := h.chk.agg
  have HPD := Lib.hid h
  clear h
  subst hv
  obtain ⟨W0, hW0⟩ : ∃ x, (w.alloc (.cells #[x0, x1, x2, x3, x4] 27)).alloc (.cells #[.float .f64 0, .float .f64 0] 32) = x := ⟨_, rfl⟩
  have hb0 : Below w.heap.size w W0 := by rw [← hW0]; exact ((Below.refl _ _).alloc (Nat.le_refl _) _).alloc (by simp) _
  have hk : W0.heap[w.heap.size]? = some (.cells #[x0, x1, x2, x3, x4] 27) := by rw [← hW0]; exact alloc_keep (heap_alloc_new w _) _
  have hk1 : W0.heap[w.heap.size + 1]? = some (.cells #[.float .f64 0, .float .f64 0] 32) := by rw [← hW0]; exact heap_new _ (by simp)
  have HA := Lib.hid (And.intro hb0 (And.intro hk hk1))
  have HT := Lib.hid (fun w' (hb : Below w.heap.size w w') => height_tick t w' ⟨HCK.out.below hb, trivial⟩)
  change Hid (∀ w', Below w.heap.size w w' → Calls _ _ _ w' (fun e w'' => e = .returned (.int .i64 (p.tickE t)) ∧ Below w'.heap.size w' w'')) at HT
  rw [hE] at HT
  obtain ⟨z0, z1, z2, z3, z4⟩ := cell5 hk
  clear hb0 hk hk1 hE hN
  go_enter Tryz.func11, Tryz.ntmps11
  go_wp2_with fail
  have HW0 := Lib.hid hW0
  clear hW0
  refine (HT.out W0 HA.out.1).mono ?_
  rintro e w1 ⟨rfl, hB1⟩
  have HB1 := Lib.hid (And.intro (bel_step HA.out.1 hB1) (And.intro (blk_below hB1 HA.out.2.1) (blk_below hB1 HA.out.2.2)))
  clear hB1 z0 z1 z2 z3 z4
  obtain ⟨z0, z1, z2, z3, z4⟩ := cell5 HB1.out.2.1
  go_wp2_with fail
  refine (HBG.out w1 HB1.out.1).mono ?_
  rintro e w2 ⟨b, rfl, hwk, hB2⟩
  have HB2 := Lib.hid (And.intro (bel_step HB1.out.1 hB2) (And.intro (blk_below hB2 HB1.out.2.2) hwk))
  clear hB2 hwk z0 z1 z2 z3 z4
  go_wp2_with fail
  refine (HWA.out b w2 HB2.out.2.2).mono ?_
  rintro e w3 ⟨rfl, hB3⟩
  have HB3 := Lib.hid (bel_step HB2.out.1 hB3)
  obtain ⟨r0, r1, r2, r3⟩ := cell2 (blk_below hB3 HB2.out.2.1)
  clear hB3
  go_wp2_with fail
  exact bodyPost_ret (v := .tuple #[.agg #[.float .f64 (hgt (flW P.mean) P.ts t), .float .f64 P.bnd], .int .i64 0]) (by simp [results, Tryz.results11, go_sem, *]) rfl ⟨rfl, below_set2 HB3.out (Nat.le_succ _) _ _⟩
set_option maxRecDepth 100000 in
set_option maxHeartbeats 1000000 in
theorem height_Sum_no {v : Value} {p : Pd} {t : Int} (w : World) (h : PdR w v p) (hE : p.tickE t ≠ 0) :
    Calls Tryz.prog 13 #[v, .int .i64 t] w fun e w' => e = .returned (.tuple #[.complex .f64 0 0, .int .i64 (p.tickE t)]) ∧ Below w.heap.size w w' := by
  have HCK := Lib.hid h.chk
  obtain ⟨x0, x1, x2, x3, x4, hv⟩ := h.chk.agg
  have HPD := Lib.hid h
  clear h
  subst hv
  obtain ⟨W0, hW0⟩ : ∃ x, w.alloc (.cells #[x0, x1, x2, x3, x4] 27) = x := ⟨_, rfl⟩
  have hb0 : Below w.heap.size w W0 := by rw [← hW0]; exact (Below.refl _ _).alloc (Nat.le_refl _) _
  have hk : W0.heap[w.heap.size]? = some (.cells #[x0, x1, x2, x3, x4] 27) := by rw [← hW0]; exact heap_alloc_new w _
  have HA := Lib.hid (And.intro hb0 hk)
  have HT := Lib.hid (fun w' (hb : Below w.heap.size w w') => height_tick t w' ⟨HCK.out.below hb, trivial⟩)
  change Hid (∀ w', Below w.heap.size w w' → Calls _ _ _ w' (fun e w'' => e = .returned (.int .i64 (p.tickE t)) ∧ Below w'.heap.size w' w'')) at HT
  obtain ⟨z0, z1, z2, z3, z4⟩ := cell5 hk
  have e1 : (p.tickE t != 0) = true := by simp [hE]
  clear hb0 hk
  generalize p.tickE t = E at *
  go_enter Tryz.func13, Tryz.ntmps13
  go_wp2_with fail
  have HW0 := Lib.hid hW0
  clear hW0
  refine (HT.out W0 HA.out.1).mono ?_
  rintro e w1 ⟨rfl, hB1⟩
  have HB1 := Lib.hid (bel_step HA.out.1 hB1)
  clear hB1 z0 z1 z2 z3 z4
  go_wp2_with fail
  go_ret2
  exact ⟨rfl, HB1.out⟩
set_option maxRecDepth 100000 in
set_option maxHeartbeats 1000000 in
theorem height_Sum_ok {v : Value} {p : Pd} {P : Pn} {t : Nat} (w : World) (h : PdR w v p) (hN : PdN p P) (hE : p.tickE t = 0) :
    Calls Tryz.prog 13 #[v, .int .i64 t] w fun e w' => e = .returned (.tuple #[.complex .f64 (hgt 0 P.ts t) (smI P.ts t), .int .i64 0]) ∧ Below w.heap.size w w' := by
  have HOK := Lib.hid (hN.oks hE)
  have HBG := Lib.hid (fun w' (hb : Below w.heap.size w w') => height_begun w' ((h.num hN).below hb) HOK.out.1)
  have HWP := Lib.hid (fun b (i : Nat) w' (hw : WkR w' b P) (hi : i < P.ts.length) => work_product i t w' hw HOK.out.1 hi (by have := HOK.out.2; omega))
  have hl24 : P.ts.length ≤ 24 := HOK.out.1.2.2.1
  have ht1 : (t : Int) ≤ 1024 := HOK.out.2.2
  have HCK := Lib.hid h.chk
  obtain ⟨x0, x1, x2, x3, x4, hv⟩ := h.chk.agg
  have HPD := Lib.hid h
  clear h
  subst hv
  obtain ⟨W0, hW0⟩ : ∃ x, w.alloc (.cells #[x0, x1, x2, x3, x4] 27) = x := ⟨_, rfl⟩
  have hb0 : Below w.heap.size w W0 := by rw [← hW0]; exact (Below.refl _ _).alloc (Nat.le_refl _) _
  have hk : W0.heap[w.heap.size]? = some (.cells #[x0, x1, x2, x3, x4] 27) := by rw [← hW0]; exact heap_alloc_new w _
  have HA := Lib.hid (And.intro hb0 hk)
  have HT := Lib.hid (fun w' (hb : Below w.heap.size w w') => height_tick t w' ⟨HCK.out.below hb, trivial⟩)
  change Hid (∀ w', Below w.heap.size w w' → Calls _ _ _ w' (fun e w'' => e = .returned (.int .i64 (p.tickE t)) ∧ Below w'.heap.size w' w'')) at HT
  rw [hE] at HT
  obtain ⟨z0, z1, z2, z3, z4⟩ := cell5 hk
  clear hb0 hk hE hN
  go_enter Tryz.func13, Tryz.ntmps13
  go_wp2_with fail
  have HW0 := Lib.hid hW0
  clear hW0
  refine (HT.out W0 HA.out.1).mono ?_
  rintro e w1 ⟨rfl, hB1⟩
  have HB1 := Lib.hid (And.intro (bel_step HA.out.1 hB1) (blk_below hB1 HA.out.2))
  clear hB1 z0 z1 z2 z3 z4
  obtain ⟨z0, z1, z2, z3, z4⟩ := cell5 HB1.out.2
  go_wp2_with fail
  refine (HBG.out w1 HB1.out.1).mono ?_
  rintro e w2 ⟨b, rfl, hwk, hB2⟩
  have HB2 := Lib.hid (And.intro (bel_step HB1.out.1 hB2) hwk)
  clear hB2 z0 z1 z2 z3 z4
  obtain ⟨nm, g, A, n, c, A', n', c', B, k, d, Z, cz, h1, h2, h3⟩ := hwk.box
  have HL := Lib.hid h2.len
  have hk24 := h2.big.1
  have hcapz := h3.cap.1
  obtain ⟨y0, y1, y2, y3, y4, y5, y6, y7⟩ := cell8 h1
  clear h1 h2 h3 hwk
  go_wp2_with fail
  clear y0 y1 y2 y3 y4 y5 y6 y7
  go_loopg [8, 23] k (fun g' hv iv wr => ∃ i : Nat, iv = .int .i64 i ∧ i + g' = k ∧ hv = .complex .f64 (hgt 0 (P.ts.take i) t) (smI (P.ts.take i) t) ∧ Below w.heap.size w wr ∧ WkR wr b P)
  case atStart => exact ⟨0, rfl, by omega, rfl, HB2.out.1, HB2.out.2⟩
  case round =>
    obtain ⟨i, rfl, hi, rfl, hN1, hN2⟩ := hrel
    have KK := Lib.hid (And.intro hN1 hN2)
    clear hN1 hN2
    by_cases hin : i < k
    · have hil : i < P.ts.length := by rw [HL.out]; exact hin
      have HSR := Lib.hid (hgt_step t (fn_zero 500) HOK.out.1.2.2.2 i hil (by omega))
      have HSI := Lib.hid (smI_step t HOK.out.1.2.2.2 i hil (by omega))
      have HPW1 := Lib.hid (HWP.out b i wr KK.out.2 hil)
      go_wp2_with fail
      refine HPW1.out.mono ?_
      rintro e w3 ⟨rfl, hB3⟩
      have K1 := Lib.hid (And.intro (bel_step KK.out.1 hB3) (KK.out.2.below hB3))
      clear hB3
      go_wp2_with fail
      refine (parts_Add _ HSR.out HSI.out).mono ?_
      rintro e w4 ⟨rfl, rfl⟩
      go_wp2_with fail
      go_roundg (k - (i + 1))
      case measure => omega
      case rel => exact ⟨i + 1, by simp, by omega, rfl, K1.out⟩
    · have hin2 : i = k := by omega
      have HTK : Hid (P.ts.take i = P.ts) := by show _ = _; rw [hin2, ← HL.out, List.take_length]
      clear hin2 hi
      go_wp2_with fail
      go_ret2
      rw [HTK.out]
      exact ⟨rfl, KK.out.1⟩
end Go.Proofs.YtcbkijeonilcjaaGreat

/- The reference of heights: bound, off, At, Sum. -/
namespace Go.Proofs.YtcbkijeonilcjaaGreat
open Go.RowKit Ieee

attribute [local go_sem] run_store_float
theorem nine_get {w : World} {b o : Nat} {N : Tn} (h : TnC w b o N) : ∃ nm A1 c1 A1' c1' A2 c2 A2' c2',
    (w.cell? ⟨b, o, none⟩ = some (.string nm) ∧ w.cell? ⟨b, o + 1, none⟩ = some (.int .i32 N.far) ∧ w.cell? ⟨b, o + 2, none⟩ = some (.int .i32 N.near) ∧ w.cell? ⟨b, o + 3, none⟩ = some (.bool (rneg N.re)) ∧ w.cell? ⟨b, o + 4, none⟩ = some (.slice A1 (wl (rnum N.re)) c1) ∧ w.cell? ⟨b, o + 5, none⟩ = some (.slice A1' (wl N.re.den) c1') ∧ w.cell? ⟨b, o + 6, none⟩ = some (.bool (rneg N.im)) ∧ w.cell? ⟨b, o + 7, none⟩ = some (.slice A2 (wl (rnum N.im)) c2) ∧ w.cell? ⟨b, o + 8, none⟩ = some (.slice A2' (wl N.im.den) c2')) ∧
    (∀ w', Below w.heap.size w w' → GtR w' (.agg #[.bool (rneg N.re), .slice A1 (wl (rnum N.re)) c1, .slice A1' (wl N.re.den) c1', .bool (rneg N.im), .slice A2 (wl (rnum N.im)) c2, .slice A2' (wl N.im.den) c2']) N.re N.im) := h.agg
set_option maxRecDepth 100000 in
set_option maxHeartbeats 2000000 in
theorem ref16_bound {v : Value} {P : Pn} (w : World) (h : PnR w v P) (hP : P.ok) :
    Calls Tryz.prog 117 #[v] w fun e w' => e = .returned (.float .f64 P.bnd) ∧ Below w.heap.size w w' := by
  obtain ⟨nm, A, c, A', c', B, k, d, rfl, h1, h2, h3⟩ := h
  have hRM : ∀ w', Below w.heap.size w w' → RtR w' (.agg #[.bool (rneg P.mean), .slice A (wl (rnum P.mean)) c, .slice A' (wl P.mean.den) c']) P.mean := fun w' hb => ⟨_, _, _, _, rfl, h1.below hb, h2.below hb⟩
  have HM := Lib.hid hRM
  have HP := Lib.hid hP
  have HBD := Lib.hid hP.bd
  have HL := Lib.hid h3.len
  have hk24 := h3.big.1
  have hcnt := cnt_float k
  have HCN := Lib.hid hcnt
  have HFM := Lib.hid (fn_flo hP.2.1 (by decide) (by decide)).2.1
  generalize rneg P.mean = g at *
  generalize wl (rnum P.mean) = n1 at *
  generalize wl P.mean.den = n2 at *
  obtain ⟨W0, hW0⟩ : ∃ x, w.alloc (.cells #[.string nm, .bool g, .slice A n1 c, .slice A' n2 c', .slice B k d] 27) = x := ⟨_, rfl⟩
  have hb0 : Below w.heap.size w W0 := by rw [← hW0]; exact (Below.refl _ _).alloc (Nat.le_refl _) _
  have hk : W0.heap[w.heap.size]? = some (.cells #[.string nm, .bool g, .slice A n1 c, .slice A' n2 c', .slice B k d] 27) := by rw [← hW0]; exact heap_alloc_new w _
  have HA := Lib.hid (show WideW w W0 _ B k d P.ts from ⟨hb0, hk, h3.below hb0⟩)
  clear hb0 hk h1 h2 h3 hRM hP hcnt
  go_enter Tryz.func117, Tryz.ntmps117
  go_wp2_with fail
  have HW0 := Lib.hid hW0
  clear hW0
  go_loopg [3, 4] k (fun g' sv iv wr => ∃ i : Nat, iv = .int .i64 i ∧ i + g' = k ∧ sv = .float .f64 (szW (P.ts.take i)) ∧ WideW w wr #[.string nm, .bool g, .slice A n1 c, .slice A' n2 c', .slice B k d] B k d P.ts)
  case atStart => exact ⟨0, rfl, by omega, rfl, HA.out⟩
  case round =>
    obtain ⟨i, rfl, hi, rfl, hN⟩ := hrel
    have KK := Lib.hid hN
    clear hN HA
    obtain ⟨z0, z1, z2, z3, z4⟩ := cell5 KK.out.2.1
    by_cases hin : i < k
    · obtain ⟨b, o, rfl, hcel⟩ := KK.out.2.2.cell (by omega)
      have hil : i < P.ts.length := by rw [HL.out]; exact hin
      obtain ⟨tnm, A1, c1, A1', c1', A2, c2, A2', c2', ⟨q0, q1, q2, q3, q4, q5, q6, q7, q8⟩, hR1⟩ := (hcel i hil).agg
      have HTO := Lib.hid (HP.out.2.2.2 _ (List.getElem_mem hil))
      have HST := Lib.hid (szW_step HP.out.2.2.2 i hil (by rw [HL.out]; omega))
      have HR1 := Lib.hid hR1
      clear hR1 hcel
      generalize hT : P.ts[i] = T at *
      clear hT q0 q1 q2
      go_wp2_with fail
      refine (ref07_NearestW wr (HR1.out wr (Below.refl _ _)) HTO.out.2.1.1 HTO.out.2.1.2 HTO.out.2.2.1 HTO.out.2.2.2).mono ?_
      rintro e w4 ⟨rfl, hB4⟩
      have K4 := Lib.hid (KK.out.step hB4)
      clear hB4 z0 z1 z2 z3 z4 q3 q4 q5 q6 q7 q8
      go_wp2_with fail
      refine (math_AbsW _ HTO.out.fl.1).mono ?_
      rintro e w7 ⟨rfl, rfl⟩
      have hadd1 := fun w => run_float_arith (P := Tryz.prog) (w := w) .add 30 .f64 _ _ _ HST.out.1
      go_wp2_with fail
      refine (math_AbsW _ HTO.out.fl.2).mono ?_
      rintro e w8 ⟨rfl, rfl⟩
      have hadd2 := fun w => run_float_arith (P := Tryz.prog) (w := w) .add 30 .f64 _ _ _ HST.out.2
      go_wp2_with fail
      go_roundg (k - (i + 1))
      case measure => omega
      case rel => exact ⟨i + 1, by simp, by omega, rfl, K4.out⟩
    · have hin2 : i = k := by omega
      have HTK : Hid (szW (P.ts.take i) = szW P.ts) := by show _ = _; rw [hin2, ← HL.out, List.take_length]
      rw [HTK.out]
      clear hin2 hi
      go_wp2_with fail
      refine (ref06_NearestW wr (HM.out wr KK.out.1) HP.out.1 HP.out.2.1).mono ?_
      rintro e w4 ⟨rfl, hB4⟩
      have K4 := Lib.hid (KK.out.step hB4)
      clear hB4 z0 z1 z2 z3 z4
      obtain ⟨z0, z1, z2, z3, z4⟩ := cell5 K4.out.2.1
      go_wp2_with fail
      refine (math_AbsW _ HFM.out).mono ?_
      rintro e w7 ⟨rfl, rfl⟩
      have ht2 := HBD.out.cnt
      rw [HL.out] at ht2
      have hadd1 := fun w => run_float_arith (P := Tryz.prog) (w := w) .add 30 .f64 _ _ _ HBD.out.tot
      have hadd2 := fun w => run_float_arith (P := Tryz.prog) (w := w) .mul 30 .f64 _ _ _ ht2
      have hadd3 := HBD.out.bd0
      rw [HL.out] at hadd3
      have hadd4 := fun w => run_float_arith (P := Tryz.prog) (w := w) .mul 30 .f64 _ _ _ hadd3
      have hcn := HCN.out
      clear ht2 hadd3
      go_wp2_with fail
      refine (ref06_Next _ HBD.out.fp.1 HBD.out.fp.2).mono ?_
      rintro e w8 ⟨rfl, rfl⟩
      clear hadd1 hadd2 hadd4 hcn
      go_wp2_with fail
      go_ret
      exact ⟨rfl, K4.out.1⟩
set_option maxRecDepth 100000 in
set_option maxHeartbeats 2000000 in
theorem ref16_off {v : Value} {P : Pn} (t : Nat) (w : World) (h : PnR w v P) (hP : P.ok) (ht : t ≤ 1024) :
    Calls Tryz.prog 53 #[v, .int .i64 t] w fun e w' => e = .returned (.agg #[.float .f64 (hgt (flW P.mean) P.ts t), .float .f64 P.bnd]) ∧ Below w.heap.size w w' := by
  have HB := Lib.hid (fun w' (hb : Below w.heap.size w w') => ref16_bound w' (h.below hb) hP)
  obtain ⟨nm, A, c, A', c', B, k, d, rfl, h1, h2, h3⟩ := h
  have hRM : ∀ w', Below w.heap.size w w' → RtR w' (.agg #[.bool (rneg P.mean), .slice A (wl (rnum P.mean)) c, .slice A' (wl P.mean.den) c']) P.mean := fun w' hb => ⟨_, _, _, _, rfl, h1.below hb, h2.below hb⟩
  have HM := Lib.hid hRM
  have HP := Lib.hid hP
  have HL := Lib.hid h3.len
  have hk24 := h3.big.1
  have ht1 : (t : Int) ≤ 1024 := by omega
  have HFM := Lib.hid (fn_flo hP.2.1 (by decide) (by decide)).2.1
  generalize rneg P.mean = g at *
  generalize wl (rnum P.mean) = n1 at *
  generalize wl P.mean.den = n2 at *
  obtain ⟨W0, hW0⟩ : ∃ x, (w.alloc (.cells #[.string nm, .bool g, .slice A n1 c, .slice A' n2 c', .slice B k d] 27)).alloc (.cells #[.float .f64 0, .float .f64 0] 32) = x := ⟨_, rfl⟩
  have hb0 : Below w.heap.size w W0 := by rw [← hW0]; exact ((Below.refl _ _).alloc (Nat.le_refl _) _).alloc (by simp) _
  have hk : W0.heap[w.heap.size]? = some (.cells #[.string nm, .bool g, .slice A n1 c, .slice A' n2 c', .slice B k d] 27) := by rw [← hW0]; exact alloc_keep (heap_alloc_new w _) _
  have hk1 : W0.heap[w.heap.size + 1]? = some (.cells #[.float .f64 0, .float .f64 0] 32) := by rw [← hW0]; exact heap_new _ (by simp)
  have HA := Lib.hid (And.intro (show WideW w W0 _ B k d P.ts from ⟨hb0, hk, h3.below hb0⟩) hk1)
  obtain ⟨z0, z1, z2, z3, z4⟩ := cell5 hk
  clear hb0 hk h1 h2 h3 hRM hP hk1
  go_enter Tryz.func53, Tryz.ntmps53
  go_wp2_with fail
  have HW0 := Lib.hid hW0
  clear hW0
  refine (ref06_NearestW W0 (HM.out W0 HA.out.1.1) HP.out.1 HP.out.2.1).mono ?_
  rintro e w1 ⟨rfl, hB1⟩
  have HA1 := Lib.hid (And.intro (HA.out.1.step hB1) (blk_below hB1 HA.out.2))
  clear hB1 z0 z1 z2 z3 z4
  go_wp2_with fail
  go_loopg [5, 7] k (fun g' sv iv wr => ∃ i : Nat, iv = .int .i64 i ∧ i + g' = k ∧ sv = .float .f64 (hgt (flW P.mean) (P.ts.take i) t) ∧ WideW w wr #[.string nm, .bool g, .slice A n1 c, .slice A' n2 c', .slice B k d] B k d P.ts ∧ wr.heap[w.heap.size + 1]? = some (.cells #[.float .f64 0, .float .f64 0] 32 (0, 0)))
  case atStart => exact ⟨0, rfl, by omega, rfl, HA1.out⟩
  case round =>
    obtain ⟨i, rfl, hi, rfl, hN⟩ := hrel
    have KK := Lib.hid hN
    clear hN HA HA1
    obtain ⟨z0, z1, z2, z3, z4⟩ := cell5 KK.out.1.2.1
    by_cases hin : i < k
    · obtain ⟨b, o, rfl, hcel⟩ := KK.out.1.2.2.cell (by omega)
      have hil : i < P.ts.length := by rw [HL.out]; exact hin
      obtain ⟨tnm, A1, c1, A1', c1', A2, c2, A2', c2', ⟨q0, q1, q2, q3, q4, q5, q6, q7, q8⟩, hR1⟩ := (hcel i hil).agg
      have HTO := Lib.hid (HP.out.2.2.2 _ (List.getElem_mem hil))
      have HST := Lib.hid (hgt_step t HFM.out HP.out.2.2.2 i hil (by rw [HL.out]; omega))
      have HPR := Lib.hid (ref16_product (nm := tnm) t wr HTO.out (by omega) hR1)
      clear hR1 hcel
      generalize hT : P.ts[i] = T at *
      clear hT
      go_wp2_with fail
      refine HPR.out.mono ?_
      rintro e w4 ⟨rfl, hB4⟩
      have K4 := Lib.hid (And.intro (KK.out.1.step hB4) (blk_below hB4 KK.out.2))
      have hadd1 := fun w => run_float_arith (P := Tryz.prog) (w := w) .add 30 .f64 _ _ _ HST.out
      clear hB4 z0 z1 z2 z3 z4 q0 q1 q2 q3 q4 q5 q6 q7 q8
      go_wp2_with fail
      go_roundg (k - (i + 1))
      case measure => omega
      case rel => exact ⟨i + 1, by simp, by omega, rfl, K4.out⟩
    · have hin2 : i = k := by omega
      have HTK : Hid (hgt (flW P.mean) (P.ts.take i) t = hgt (flW P.mean) P.ts t) := by show _ = _; rw [hin2, ← HL.out, List.take_length]
      rw [HTK.out]
      clear hin2 hi
      go_wp2_with fail
      refine (HB.out wr KK.out.1.1).mono ?_
      rintro e w4 ⟨rfl, hB4⟩
      have K4 := Lib.hid (bel_step KK.out.1.1 hB4)
      obtain ⟨r0, r1, r2, r3⟩ := cell2 (blk_below hB4 KK.out.2)
      clear hB4 z0 z1 z2 z3 z4
      go_wp2_with fail
      exact bodyPost_ret (v := .agg #[.float .f64 (hgt (flW P.mean) P.ts t), .float .f64 P.bnd]) (by simp [results, Tryz.results53, go_sem, *]) rfl ⟨rfl, below_set2 K4.out (Nat.le_succ _) _ _⟩
end Go.Proofs.YtcbkijeonilcjaaGreat
