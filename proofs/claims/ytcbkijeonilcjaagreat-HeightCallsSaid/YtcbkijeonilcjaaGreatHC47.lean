/- The reference of heights: At, Sum. -/
import Derived.Test.YtcbkijeonilcjaaGreatHC7
import Derived.Test.YtcbkijeonilcjaaGreatHC46
namespace Go.Proofs.YtcbkijeonilcjaaGreat
open Go.RowKit Ieee

attribute [local go_sem] run_store_float
set_option maxRecDepth 100000 in
set_option maxHeartbeats 1000000 in
theorem ref16_At_no {v : Value} {p : Pd} {t : Int} (w : World) (h : PdR w v p) (hE : p.tickE t ≠ 0) :
    Calls Tryz.prog 12 #[v, .int .i64 t] w fun e w' => e = .returned (.tuple #[.agg #[.float .f64 0, .float .f64 0], .int .i64 (p.tickE t)]) ∧ Below w.heap.size w w' := by
  have HCK := Lib.hid h.chk
  obtain ⟨x0, x1, x2, x3, x4, hv⟩ := h.chk.agg
  have HPD := Lib.hid h
  clear h
  subst hv
  obtain ⟨W0, hW0⟩ : ∃ x, (w.alloc (.cells #[x0, x1, x2, x3, x4] 27)).alloc (.cells #[.float .f64 0, .float .f64 0] 32) = x := ⟨_, rfl⟩
  have hb0 : Below w.heap.size w W0 := by rw [← hW0]; exact ((Below.refl _ _).alloc (Nat.le_refl _) _).alloc (by simp) _
  have hk : W0.heap[w.heap.size]? = some (.cells #[x0, x1, x2, x3, x4] 27) := by rw [← hW0]; exact alloc_keep (heap_alloc_new w _) _
  have hk1 : W0.heap[w.heap.size + 1]? = some (.cells #[.float .f64 0, .float .f64 0] 32) := by rw [← hW0]; exact heap_new _ (by simp)
  have HA := Lib.hid (And.intro hb0 (And.intro hk hk1))
  have HT := Lib.hid (fun w' (hb : Below w.heap.size w w') => ref16_tick t w' ⟨HCK.out.below hb, trivial⟩)
  change Hid (∀ w', Below w.heap.size w w' → Calls _ _ _ w' (fun e w'' => e = .returned (.int .i64 (p.tickE t)) ∧ Below w'.heap.size w' w'')) at HT
  obtain ⟨z0, z1, z2, z3, z4⟩ := cell5 hk
  have e1 : (p.tickE t != 0) = true := by simp [hE]
  clear hb0 hk hk1
  generalize p.tickE t = E at *
  go_enter Tryz.func12, Tryz.ntmps12
  go_wp2_with fail
  have HW0 := Lib.hid hW0
  clear hW0
  refine (HT.out W0 HA.out.1).mono ?_
  rintro e w1 ⟨rfl, hB1⟩
  have HB1 := Lib.hid (bel_step HA.out.1 hB1)
  obtain ⟨r0, r1, r2, r3⟩ := cell2 (blk_below hB1 HA.out.2.2)
  clear hB1 z0 z1 z2 z3 z4
  go_wp2_with fail
  exact bodyPost_ret (v := .tuple #[.agg #[.float .f64 0, .float .f64 0], .int .i64 E]) (by simp [results, Tryz.results12, go_sem, *]) rfl ⟨rfl, below_set2 HB1.out (Nat.le_succ _) _ _⟩
set_option maxRecDepth 100000 in
set_option maxHeartbeats 1000000 in
theorem ref16_At_ok {v : Value} {p : Pd} {P : Pn} {t : Nat} (w : World) (h : PdR w v p) (hN : PdN p P) (hE : p.tickE t = 0) :
    Calls Tryz.prog 12 #[v, .int .i64 t] w fun e w' => e = .returned (.tuple #[.agg #[.float .f64 (hgt (flW P.mean) P.ts t), .float .f64 P.bnd], .int .i64 0]) ∧ Below w.heap.size w w' := by
  have HOK := Lib.hid (hN.oks hE)
  have HOF := Lib.hid (fun w' (hb : Below w.heap.size w w') => ref16_off t w' ((h.num hN).below hb) HOK.out.1 (by have := HOK.out.2; omega))
  have HCK := Lib.hid h.chk
  obtain ⟨x0, x1, x2, x3, x4, hv⟩ := h.chk.agg
  have HPD := Lib.hid h
  clear h
  subst hv
  obtain ⟨W0, hW0⟩ : ∃ x, (w.alloc (.cells #[x0, x1, x2, x3, x4] 27)).alloc (.cells #[.float .f64 0, .float .f64 0] 32) = x := ⟨_, rfl⟩
  have hb0 : Below w.heap.size w W0 := by rw [← hW0]; exact ((Below.refl _ _).alloc (Nat.le_refl _) _).alloc (by simp) _
  have hk : W0.heap[w.heap.size]? = some (.cells #[x0, x1, x2, x3, x4] 27) := by rw [← hW0]; exact alloc_keep (heap_alloc_new w _) _
  have hk1 : W0.heap[w.heap.size + 1]? = some (.cells #[.float .f64 0, .float .f64 0] 32) := by rw [← hW0]; exact heap_new _ (by simp)
  have HA := Lib.hid (And.intro hb0 (And.intro hk hk1))
  have HT := Lib.hid (fun w' (hb : Below w.heap.size w w') => ref16_tick t w' ⟨HCK.out.below hb, trivial⟩)
  change Hid (∀ w', Below w.heap.size w w' → Calls _ _ _ w' (fun e w'' => e = .returned (.int .i64 (p.tickE t)) ∧ Below w'.heap.size w' w'')) at HT
  rw [hE] at HT
  obtain ⟨z0, z1, z2, z3, z4⟩ := cell5 hk
  clear hb0 hk hk1 hE hN
  go_enter Tryz.func12, Tryz.ntmps12
  go_wp2_with fail
  have HW0 := Lib.hid hW0
  clear hW0
  refine (HT.out W0 HA.out.1).mono ?_
  rintro e w1 ⟨rfl, hB1⟩
  have HB1 := Lib.hid (And.intro (bel_step HA.out.1 hB1) (And.intro (blk_below hB1 HA.out.2.1) (blk_below hB1 HA.out.2.2)))
  clear hB1 z0 z1 z2 z3 z4
  obtain ⟨z0, z1, z2, z3, z4⟩ := cell5 HB1.out.2.1
  go_wp2_with fail
  refine (HOF.out w1 HB1.out.1).mono ?_
  rintro e w3 ⟨rfl, hB3⟩
  have HB3 := Lib.hid (bel_step HB1.out.1 hB3)
  obtain ⟨r0, r1, r2, r3⟩ := cell2 (blk_below hB3 HB1.out.2.2)
  clear hB3 z0 z1 z2 z3 z4
  go_wp2_with fail
  exact bodyPost_ret (v := .tuple #[.agg #[.float .f64 (hgt (flW P.mean) P.ts t), .float .f64 P.bnd], .int .i64 0]) (by simp [results, Tryz.results12, go_sem, *]) rfl ⟨rfl, below_set2 HB3.out (Nat.le_succ _) _ _⟩
set_option maxRecDepth 100000 in
set_option maxHeartbeats 1000000 in
theorem ref16_Sum_no {v : Value} {p : Pd} {t : Int} (w : World) (h : PdR w v p) (hE : p.tickE t ≠ 0) :
    Calls Tryz.prog 14 #[v, .int .i64 t] w fun e w' => e = .returned (.tuple #[.complex .f64 0 0, .int .i64 (p.tickE t)]) ∧ Below w.heap.size w w' := by
  have HCK := Lib.hid h.chk
  obtain ⟨x0, x1, x2, x3, x4, hv⟩ := h.chk.agg
  have HPD := Lib.hid h
  clear h
  subst hv
  obtain ⟨W0, hW0⟩ : ∃ x, w.alloc (.cells #[x0, x1, x2, x3, x4] 27) = x := ⟨_, rfl⟩
  have hb0 : Below w.heap.size w W0 := by rw [← hW0]; exact (Below.refl _ _).alloc (Nat.le_refl _) _
  have hk : W0.heap[w.heap.size]? = some (.cells #[x0, x1, x2, x3, x4] 27) := by rw [← hW0]; exact heap_alloc_new w _
  have HA := Lib.hid (And.intro hb0 hk)
  have HT := Lib.hid (fun w' (hb : Below w.heap.size w w') => ref16_tick t w' ⟨HCK.out.below hb, trivial⟩)
  change Hid (∀ w', Below w.heap.size w w' → Calls _ _ _ w' (fun e w'' => e = .returned (.int .i64 (p.tickE t)) ∧ Below w'.heap.size w' w'')) at HT
  obtain ⟨z0, z1, z2, z3, z4⟩ := cell5 hk
  have e1 : (p.tickE t != 0) = true := by simp [hE]
  clear hb0 hk
  generalize p.tickE t = E at *
  go_enter Tryz.func14, Tryz.ntmps14
  go_wp2_with fail
  have HW0 := Lib.hid hW0
  clear hW0
  refine (HT.out W0 HA.out.1).mono ?_
  rintro e w1 ⟨rfl, hB1⟩
  have HB1 := Lib.hid (bel_step HA.out.1 hB1)
  clear hB1 z0 z1 z2 z3 z4
  go_wp2_with fail
  go_ret2
  exact ⟨rfl, HB1.out⟩
set_option maxRecDepth 100000 in
set_option maxHeartbeats 1000000 in
theorem ref16_Sum_ok {v : Value} {p : Pd} {P : Pn} {t : Nat} (w : World) (h : PdR w v p) (hN : PdN p P) (hE : p.tickE t = 0) :
    Calls Tryz.prog 14 #[v, .int .i64 t] w fun e w' => e = .returned (.tuple #[.complex .f64 (hgt 0 P.ts t) (smI P.ts t), .int .i64 0]) ∧ Below w.heap.size w w' := by
  have HOK := Lib.hid (hN.oks hE)
  have hl24 : P.ts.length ≤ 24 := HOK.out.1.2.2.1
  have ht1 : (t : Int) ≤ 1024 := HOK.out.2.2
  have HCK := Lib.hid h.chk
  obtain ⟨nm, A, c, A', c', B, k, d, hv, h1, h2, h3⟩ := h.num hN
  subst hv
  have HL := Lib.hid h3.len
  have hk24 := h3.big.1
  generalize rneg P.mean = g at *
  generalize wl (rnum P.mean) = n1 at *
  generalize wl P.mean.den = n2 at *
  obtain ⟨W0, hW0⟩ : ∃ x, w.alloc (.cells #[.string nm, .bool g, .slice A n1 c, .slice A' n2 c', .slice B k d] 27) = x := ⟨_, rfl⟩
  have hb0 : Below w.heap.size w W0 := by rw [← hW0]; exact (Below.refl _ _).alloc (Nat.le_refl _) _
  have hk : W0.heap[w.heap.size]? = some (.cells #[.string nm, .bool g, .slice A n1 c, .slice A' n2 c', .slice B k d] 27) := by rw [← hW0]; exact heap_alloc_new w _
  have HA := Lib.hid (show WideW w W0 _ B k d P.ts from ⟨hb0, hk, h3.below hb0⟩)
  have HT := Lib.hid (fun w' (hb : Below w.heap.size w w') => ref16_tick t w' ⟨HCK.out.below hb, trivial⟩)
  change Hid (∀ w', Below w.heap.size w w' → Calls _ _ _ w' (fun e w'' => e = .returned (.int .i64 (p.tickE t)) ∧ Below w'.heap.size w' w'')) at HT
  rw [hE] at HT
  obtain ⟨z0, z1, z2, z3, z4⟩ := cell5 hk
  clear hb0 hk hE hN h1 h2 h3 h
  go_enter Tryz.func14, Tryz.ntmps14
  go_wp2_with fail
  have HW0 := Lib.hid hW0
  clear hW0
  refine (HT.out W0 HA.out.1).mono ?_
  rintro e w1 ⟨rfl, hB1⟩
  have HB1 := Lib.hid (HA.out.step hB1)
  clear hB1 z0 z1 z2 z3 z4
  go_wp2_with fail
  go_loopg [7, 8] k (fun g' hv iv wr => ∃ i : Nat, iv = .int .i64 i ∧ i + g' = k ∧ hv = .complex .f64 (hgt 0 (P.ts.take i) t) (smI (P.ts.take i) t) ∧ WideW w wr #[.string nm, .bool g, .slice A n1 c, .slice A' n2 c', .slice B k d] B k d P.ts)
  case atStart => exact ⟨0, rfl, by omega, rfl, HB1.out⟩
  case round =>
    obtain ⟨i, rfl, hi, rfl, hN1⟩ := hrel
    have KK := Lib.hid hN1
    clear hN1 HA HB1
    obtain ⟨z0, z1, z2, z3, z4⟩ := cell5 KK.out.2.1
    by_cases hin : i < k
    · obtain ⟨b, o, rfl, hcel⟩ := KK.out.2.2.cell (by omega)
      have hil : i < P.ts.length := by rw [HL.out]; exact hin
      obtain ⟨tnm, A1, c1, A1', c1', A2, c2, A2', c2', ⟨q0, q1, q2, q3, q4, q5, q6, q7, q8⟩, hR1⟩ := (hcel i hil).agg
      have HTO := Lib.hid (HOK.out.1.2.2.2 _ (List.getElem_mem hil))
      have HSR := Lib.hid (hgt_step t (fn_zero 500) HOK.out.1.2.2.2 i hil (by omega))
      have HSI := Lib.hid (smI_step t HOK.out.1.2.2.2 i hil (by omega))
      have HPR := Lib.hid (ref16_product (nm := tnm) t wr HTO.out (by omega) hR1)
      clear hR1 hcel
      generalize hT : P.ts[i] = T at *
      clear hT
      go_wp2_with fail
      refine HPR.out.mono ?_
      rintro e w4 ⟨rfl, hB4⟩
      have K4 := Lib.hid (KK.out.step hB4)
      clear hB4 z0 z1 z2 z3 z4 q0 q1 q2 q3 q4 q5 q6 q7 q8
      go_wp2_with fail
      refine (ref07_Add _ HSR.out HSI.out).mono ?_
      rintro e w5 ⟨rfl, rfl⟩
      go_wp2_with fail
      go_roundg (k - (i + 1))
      case measure => omega
      case rel => exact ⟨i + 1, by simp, by omega, rfl, K4.out⟩
    · have hin2 : i = k := by omega
      have HTK : Hid (P.ts.take i = P.ts) := by show _ = _; rw [hin2, ← HL.out, List.take_length]
      clear hin2 hi
      go_wp2_with fail
      go_ret2
      rw [HTK.out]
      exact ⟨rfl, KK.out.1⟩
end Go.Proofs.YtcbkijeonilcjaaGreat

/- Guards of the statements: few words. -/
namespace Go.Proofs.YtcbkijeonilcjaaGreat
open Go.RowKit

def smB (n m : Nat) : Bool := decide (n ≤ m) || (decide (2048 < n) && decide (n < 2057))
set_option maxRecDepth 100000 in
theorem law04_small (A : Option Addr) (n c m : Nat) (w : World) :
    Calls Tryz.prog 107 #[.slice A n c, .int .i64 m] w fun e w' => e = .returned (.bool (smB n m)) ∧ w' = w := by
  by_cases h1 : n ≤ m
  · have HE : Hid (smB n m = true) := by show smB n m = true; unfold smB; simp [h1]
    go_enter Tryz.func107, Tryz.ntmps107
    go_wp2
    go_ret
    exact ⟨by rw [HE.out]; rfl, rfl⟩
  · by_cases h2 : 2048 < n
    · by_cases h3 : n < 2057
      · have HE : Hid (smB n m = true) := by show smB n m = true; unfold smB; simp [h2, h3]
        have e3 : ((n : Int) < 2057) = True := by simp only [eq_iff_iff, iff_true]; omega
        go_enter Tryz.func107, Tryz.ntmps107
        go_wp2
        go_ret
        exact ⟨by rw [HE.out]; rfl, rfl⟩
      · have HE : Hid (smB n m = false) := by show smB n m = false; unfold smB; simp [h1, h3]
        have e3 : ((n : Int) < 2057) = False := by simp only [eq_iff_iff, iff_false]; omega
        go_enter Tryz.func107, Tryz.ntmps107
        go_wp2
        go_ret
        exact ⟨by rw [HE.out]; rfl, rfl⟩
    · have HE : Hid (smB n m = false) := by show smB n m = false; unfold smB; simp [h1, h2]
      go_enter Tryz.func107, Tryz.ntmps107
      go_wp2
      go_ret
      exact ⟨by rw [HE.out]; rfl, rfl⟩
end Go.Proofs.YtcbkijeonilcjaaGreat

/- Guards of the statements: fractions of few words. -/
namespace Go.Proofs.YtcbkijeonilcjaaGreat
open Go.RowKit

theorem law04_Small (g : Bool) (A A' : Option Addr) (n n' c c' m : Nat) (w : World) :
    Calls Tryz.prog 45 #[.agg #[.bool g, .slice A n c, .slice A' n' c'], .int .i64 m] w fun e w' => e = .returned (.bool (smB n m && smB n' m)) ∧ Below w.heap.size w w' := by
  have HB := Lib.hid ((Below.refl w.heap.size w).alloc (Nat.le_refl _) (.cells #[.bool g, .slice A n c, .slice A' n' c'] 24))
  have HS := Lib.hid (@law04_small)
  cases h1 : smB n m
  · have H1 := Lib.hid h1
    clear h1
    go_enter Tryz.func45, Tryz.ntmps45
    go_wp2_with fail
    refine (HS.out A n c m _).mono ?_
    rintro e w1 ⟨rfl, rfl⟩
    rw [H1.out]
    go_wp2_with fail
    go_ret
    exact ⟨rfl, HB.out⟩
  · have H1 := Lib.hid h1
    clear h1
    go_enter Tryz.func45, Tryz.ntmps45
    go_wp2_with fail
    refine (HS.out A n c m _).mono ?_
    rintro e w1 ⟨rfl, rfl⟩
    rw [H1.out]
    go_wp2_with fail
    refine (HS.out A' n' c' m _).mono ?_
    rintro e w1 ⟨rfl, rfl⟩
    go_wp2_with fail
    go_ret
    exact ⟨by simp, HB.out⟩
end Go.Proofs.YtcbkijeonilcjaaGreat
