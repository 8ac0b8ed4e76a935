/- Package ratio: Add, Sub, Mul. -/
import Derived.Test.YtcbkijeonilcjaaGreatHC12
namespace Go.Proofs.YtcbkijeonilcjaaGreat
open Go.RowKit

theorem cell_set3 {w : World} {b b' o : Nat} {u x y z : Value} (h : w.cell? ⟨b', o, none⟩ = some u) (hne : b' ≠ b := by omega) : (((w.setCell ⟨b, 0, none⟩ x).setCell ⟨b, 1, none⟩ y).setCell ⟨b, 2, none⟩ z).cell? ⟨b', o, none⟩ = some u := by
  rw [World.cell?_setCell_far _ _ _ _ (Ne.symm hne), World.cell?_setCell_far _ _ _ _ (Ne.symm hne), World.cell?_setCell_far _ _ _ _ (Ne.symm hne)]; exact h
set_option maxRecDepth 100000 in
set_option maxHeartbeats 1000000 in
theorem ratio_Add_ok
    (a b : Rat) (A A' B B' : Option Addr) (c c' d d' : Nat) (w : World) (h : Rd w A (wl (rnum a)) c (wds (rnum a))) (h' : Rd w A' (wl a.den) c' (wds a.den)) (k : Rd w B (wl (rnum b)) d (wds (rnum b))) (k' : Rd w B' (wl b.den) d' (wds b.den)) (ha : fits a) (hb : fits b) :
    Calls Tryz.prog 142
    #[.agg #[.bool (rneg a), .slice A (wl (rnum a)) c, .slice A' (wl a.den) c'], .agg #[.bool (rneg b), .slice B (wl (rnum b)) d, .slice B' (wl b.den) d']] w fun e w' => ∃ v k, e = .returned (.tuple #[v, .int .i64 k]) ∧ RtA 116 w' w.heap.size v k (a + b) ∧ Below w.heap.size w w' := by
  have HC := Lib.hid (fits_fits ha hb)
  have hna : rneg a = rneg a := rfl
  have hb0 : Below w.heap.size w (((w.alloc (.cells #[.bool (rneg a), .slice A (wl (rnum a)) c, .slice A' (wl a.den) c'] 24)).alloc (.cells #[.bool (rneg b), .slice B (wl (rnum b)) d, .slice B' (wl b.den) d'] 24)).alloc (.cells #[.bool false, .slice none 0 0, .slice none 0 0] 24)) := (((Below.refl _ _).alloc (Nat.le_refl _) _).alloc (by simp) _).alloc (by simp; omega) _
  have KB := fun W => @boxes3 w W (rneg a) (rneg b) (.slice A (wl (rnum a)) c) (.slice A' (wl a.den) c') (.slice B (wl (rnum b)) d) (.slice B' (wl b.den) d') 24
  have H1 := h.below hb0
  have H2 := h'.below hb0
  have K1 := k.below hb0
  have K2 := k'.below hb0
  have HB0 := Lib.hid hb0
  have HZ : Hid (∀ W0, W0 = (((w.alloc (.cells #[.bool (rneg a), .slice A (wl (rnum a)) c, .slice A' (wl a.den) c'] 24)).alloc (.cells #[.bool (rneg b), .slice B (wl (rnum b)) d, .slice B' (wl b.den) d'] 24)).alloc (.cells #[.bool false, .slice none 0 0, .slice none 0 0] 24)) → W0.heap.size = w.heap.size + 3) := by
    show ∀ W0, W0 = _ → _
    rintro W0 rfl; simp
  have HF := Lib.hid (And.intro ha hb)
  clear h h' k k' hb0 hna ha hb
  go_enter Tryz.func142, Tryz.ntmps142
  go_wp2_with fail
  refine (ratio_checks _ _ A A' B B' _ _ _ _ _ _ _ _ _ _ _ _ _ H1 H2 K1 K2).mono ?_
  rintro e w1 ⟨rfl, hB1⟩
  rw [HC.out]
  generalize hW0 : (((w.alloc (.cells #[.bool (rneg a), .slice A (wl (rnum a)) c, .slice A' (wl a.den) c'] 24)).alloc (.cells #[.bool (rneg b), .slice B (wl (rnum b)) d, .slice B' (wl b.den) d'] 24)).alloc (.cells #[.bool false, .slice none 0 0, .slice none 0 0] 24)) = W0 at *
  have HS := Lib.hid (HZ.out W0 rfl)
  have HKB := Lib.hid KB
  clear KB HZ hW0
  obtain ⟨⟨c0, c1, c2, d0, d1, d2⟩, _⟩ := HKB.out _ hB1
  go_wp2_with fail
  refine (ratio_plus a b A A' B B' c c' d d' _ (H1.below hB1) (H2.below hB1) (K1.below hB1) (K2.below hB1) HF.out.1 HF.out.2).mono ?_
  rintro e w6 ⟨v, k, rfl, hA, hB6⟩
  have hBc6 := hB1.trans (hB6.mono hB1.size)
  have hlt : w.heap.size + 1 + 1 < w1.heap.size := by have := HS.out; have := hB1.size; omega
  clear c0 c1 c2 d0 d1 d2 hB6
  -- hA : RtA w6 (base) .., hBc6 : Below W0 w6, hlt : w.heap.size + 1 + 1 < base
  obtain ⟨_, r0, r1, r2, s0, s1, s2⟩ := HKB.out _ hBc6
  obtain ⟨vb, vA, vn, vc, vA', vn', vc', rfl⟩ := hA.agg
  have HA := Lib.hid hA
  have HL := Lib.hid (And.intro hlt (HB0.out.trans (hBc6.mono HB0.out.size)))
  clear hA hlt hBc6
  go_wp2_with fail
  exact bodyPost_ret (v := .tuple #[.agg #[.bool vb, .slice vA vn vc, .slice vA' vn' vc'], .int .i64 k]) (by simp [results, Tryz.results142, go_sem, r0, r1, r2]) rfl ⟨_, _, rfl, (HA.out.set3 HL.out.1).mono (by have := HL.out.1; omega), below_set3 HL.out.2 (by omega) _ _ _⟩

set_option maxRecDepth 100000 in
set_option maxHeartbeats 1000000 in
theorem ratio_Sub_ok
    (a b : Rat) (A A' B B' : Option Addr) (c c' d d' : Nat) (w : World) (h : Rd w A (wl (rnum a)) c (wds (rnum a))) (h' : Rd w A' (wl a.den) c' (wds a.den)) (k : Rd w B (wl (rnum b)) d (wds (rnum b))) (k' : Rd w B' (wl b.den) d' (wds b.den)) (ha : fits a) (hb : fits b) :
    Calls Tryz.prog 303
    #[.agg #[.bool (rneg a), .slice A (wl (rnum a)) c, .slice A' (wl a.den) c'], .agg #[.bool (rneg b), .slice B (wl (rnum b)) d, .slice B' (wl b.den) d']] w fun e w' => ∃ v k, e = .returned (.tuple #[v, .int .i64 k]) ∧ RtA 116 w' w.heap.size v k (a - b) ∧ Below w.heap.size w w' := by
  have HC := Lib.hid (fits_fits ha hb)
  have hna : rneg a = rneg a := rfl
  have hb0 : Below w.heap.size w (((w.alloc (.cells #[.bool (rneg a), .slice A (wl (rnum a)) c, .slice A' (wl a.den) c'] 24)).alloc (.cells #[.bool (rneg b), .slice B (wl (rnum b)) d, .slice B' (wl b.den) d'] 24)).alloc (.cells #[.bool false, .slice none 0 0, .slice none 0 0] 24)) := (((Below.refl _ _).alloc (Nat.le_refl _) _).alloc (by simp) _).alloc (by simp; omega) _
  have KB := fun W => @boxes3 w W (rneg a) (rneg b) (.slice A (wl (rnum a)) c) (.slice A' (wl a.den) c') (.slice B (wl (rnum b)) d) (.slice B' (wl b.den) d') 24
  have H1 := h.below hb0
  have H2 := h'.below hb0
  have K1 := k.below hb0
  have K2 := k'.below hb0
  have HB0 := Lib.hid hb0
  have HZ : Hid (∀ W0, W0 = (((w.alloc (.cells #[.bool (rneg a), .slice A (wl (rnum a)) c, .slice A' (wl a.den) c'] 24)).alloc (.cells #[.bool (rneg b), .slice B (wl (rnum b)) d, .slice B' (wl b.den) d'] 24)).alloc (.cells #[.bool false, .slice none 0 0, .slice none 0 0] 24)) → W0.heap.size = w.heap.size + 3) := by
    show ∀ W0, W0 = _ → _
    rintro W0 rfl; simp
  have HF := Lib.hid (And.intro ha hb)
  clear h h' k k' hb0 hna ha hb
  go_enter Tryz.func303, Tryz.ntmps303
  go_wp2_with fail
  refine (ratio_checks _ _ A A' B B' _ _ _ _ _ _ _ _ _ _ _ _ _ H1 H2 K1 K2).mono ?_
  rintro e w1 ⟨rfl, hB1⟩
  rw [HC.out]
  generalize hW0 : (((w.alloc (.cells #[.bool (rneg a), .slice A (wl (rnum a)) c, .slice A' (wl a.den) c'] 24)).alloc (.cells #[.bool (rneg b), .slice B (wl (rnum b)) d, .slice B' (wl b.den) d'] 24)).alloc (.cells #[.bool false, .slice none 0 0, .slice none 0 0] 24)) = W0 at *
  have HS := Lib.hid (HZ.out W0 rfl)
  have HKB := Lib.hid KB
  clear KB HZ hW0
  have hBs : Below W0.heap.size W0 w1.drew := below_drewN hB1 1
  have HE : Hid (a - b = a + -b) := Rat.sub_eq_add_neg a b
  go_wp2_with fail
  go_region_held3 (fun w' => (w'.cell? ⟨w.heap.size, 0, none⟩ = some (.bool (rneg a)) ∧ w'.cell? ⟨w.heap.size, 1, none⟩ = some (.slice A (wl (rnum a)) c) ∧ w'.cell? ⟨w.heap.size, 2, none⟩ = some (.slice A' (wl a.den) c') ∧ w'.cell? ⟨w.heap.size + 1, 0, none⟩ = some (.bool (rneg b)) ∧ w'.cell? ⟨w.heap.size + 1, 1, none⟩ = some (.slice B (wl (rnum b)) d) ∧ w'.cell? ⟨w.heap.size + 1, 2, none⟩ = some (.slice B' (wl b.den) d')))
    (first
      | exact (HKB.out _ hBs).1
      | exact (HKB.out _ hBc2).1
      | exact (HKB.out _ hBc6).1
      | (have hk := (HKB.out _ hBc6).1; exact ⟨cell_set3 hk.1, cell_set3 hk.2.1, cell_set3 hk.2.2.1, cell_set3 hk.2.2.2.1, cell_set3 hk.2.2.2.2.1, cell_set3 hk.2.2.2.2.2⟩))
    (first
      | (go_at_call 328; with_reducible refine (ratio_turned b B B' d d' _).mono ?_; rintro e w2 ⟨rfl, hB2⟩; have hBc2 := hBs.trans (hB2.mono hBs.size))
      | (go_at_call 224; rw [← neg_rnum b, ← Rat.neg_den b]; with_reducible refine (ratio_plus a (-b) A A' B B' c c' d d' _ (H1.below hBc2) (H2.below hBc2) (by rw [neg_rnum]; exact K1.below hBc2) (by rw [Rat.neg_den]; exact K2.below hBc2) HF.out.1 (fits_neg.2 HF.out.2)).mono ?_; rintro e w6 ⟨v, k, rfl, hA, hB6⟩; have hBc6 := hBc2.trans (hB6.mono hBc2.size); obtain ⟨_, r0, r1, r2, s0, s1, s2⟩ := HKB.out _ hBc6; obtain ⟨vb, vA, vn, vc, vA', vn', vc', rfl⟩ := hA.agg))
  have HA := Lib.hid hA
  have HL := Lib.hid (And.intro (show w.heap.size + 1 + 1 < w2.heap.size from by have := HS.out; have := hBc2.size; omega) (HB0.out.trans (hBc6.mono HB0.out.size)))
  clear hBs hBc2 hBc6 hB2 hB6 hA HKB hB1
  go_wp2_with fail
  exact bodyPost_ret (v := .tuple #[.agg #[.bool vb, .slice vA vn vc, .slice vA' vn' vc'], .int .i64 k]) (by simp [results, Tryz.results303, go_sem, r0, r1, r2]) rfl ⟨_, _, rfl, by rw [HE.out]; exact (HA.out.set3 HL.out.1).mono (by have := HL.out.1; omega), below_set3 HL.out.2 (by omega) _ _ _⟩

set_option maxRecDepth 100000 in
set_option maxHeartbeats 1000000 in
theorem ratio_Mul_ok
    (a b : Rat) (A A' B B' : Option Addr) (c c' d d' : Nat) (w : World) (h : Rd w A (wl (rnum a)) c (wds (rnum a))) (h' : Rd w A' (wl a.den) c' (wds a.den)) (k : Rd w B (wl (rnum b)) d (wds (rnum b))) (k' : Rd w B' (wl b.den) d' (wds b.den)) (ha : fits a) (hb : fits b) :
    Calls Tryz.prog 327
    #[.agg #[.bool (rneg a), .slice A (wl (rnum a)) c, .slice A' (wl a.den) c'], .agg #[.bool (rneg b), .slice B (wl (rnum b)) d, .slice B' (wl b.den) d']] w fun e w' => ∃ v k, e = .returned (.tuple #[v, .int .i64 k]) ∧ RtA 116 w' w.heap.size v k (a * b) ∧ Below w.heap.size w w' := by
  have HC := Lib.hid (fits_fits ha hb)
  have hna : rneg a = rneg a := rfl
  have hb0 : Below w.heap.size w (((w.alloc (.cells #[.bool (rneg a), .slice A (wl (rnum a)) c, .slice A' (wl a.den) c'] 24)).alloc (.cells #[.bool (rneg b), .slice B (wl (rnum b)) d, .slice B' (wl b.den) d'] 24)).alloc (.cells #[.bool false, .slice none 0 0, .slice none 0 0] 24)) := (((Below.refl _ _).alloc (Nat.le_refl _) _).alloc (by simp) _).alloc (by simp; omega) _
  have KB := fun W => @boxes3 w W (rneg a) (rneg b) (.slice A (wl (rnum a)) c) (.slice A' (wl a.den) c') (.slice B (wl (rnum b)) d) (.slice B' (wl b.den) d') 24
  have H1 := h.below hb0
  have H2 := h'.below hb0
  have K1 := k.below hb0
  have K2 := k'.below hb0
  have HB0 := Lib.hid hb0
  have HZ : Hid (∀ W0, W0 = (((w.alloc (.cells #[.bool (rneg a), .slice A (wl (rnum a)) c, .slice A' (wl a.den) c'] 24)).alloc (.cells #[.bool (rneg b), .slice B (wl (rnum b)) d, .slice B' (wl b.den) d'] 24)).alloc (.cells #[.bool false, .slice none 0 0, .slice none 0 0] 24)) → W0.heap.size = w.heap.size + 3) := by
    show ∀ W0, W0 = _ → _
    rintro W0 rfl; simp
  have HF := Lib.hid (And.intro ha hb)
  clear h h' k k' hb0 hna ha hb
  obtain ⟨⟨f1, f2⟩, f3, f4⟩ := HF.out
  have lx : wl (rnum a * rnum b) ≤ 4096 := Nat.le_trans (wl_mul _ _) (by omega)
  have ld : wl (a.den * b.den) ≤ 4096 := Nat.le_trans (wl_mul _ _) (by omega)
  have HP : Hid (0 < a.den * b.den) := Nat.mul_pos a.den_pos b.den_pos
  go_enter Tryz.func327, Tryz.ntmps327
  go_wp2_with fail
  refine (ratio_checks _ _ A A' B B' _ _ _ _ _ _ _ _ _ _ _ _ _ H1 H2 K1 K2).mono ?_
  rintro e w1 ⟨rfl, hB1⟩
  rw [HC.out]
  generalize hW0 : (((w.alloc (.cells #[.bool (rneg a), .slice A (wl (rnum a)) c, .slice A' (wl a.den) c'] 24)).alloc (.cells #[.bool (rneg b), .slice B (wl (rnum b)) d, .slice B' (wl b.den) d'] 24)).alloc (.cells #[.bool false, .slice none 0 0, .slice none 0 0] 24)) = W0 at *
  have HS := Lib.hid (HZ.out W0 rfl)
  have HKB := Lib.hid KB
  clear KB HZ hW0
  have hBs : Below W0.heap.size W0 w1.drew := below_drewN hB1 1
  go_wp2_with fail
  go_region_held3 (fun w' => (w'.cell? ⟨w.heap.size, 0, none⟩ = some (.bool (rneg a)) ∧ w'.cell? ⟨w.heap.size, 1, none⟩ = some (.slice A (wl (rnum a)) c) ∧ w'.cell? ⟨w.heap.size, 2, none⟩ = some (.slice A' (wl a.den) c') ∧ w'.cell? ⟨w.heap.size + 1, 0, none⟩ = some (.bool (rneg b)) ∧ w'.cell? ⟨w.heap.size + 1, 1, none⟩ = some (.slice B (wl (rnum b)) d) ∧ w'.cell? ⟨w.heap.size + 1, 2, none⟩ = some (.slice B' (wl b.den) d')))
    (first
      | exact (HKB.out _ hBs).1
      | exact (HKB.out _ hBc2).1
      | exact (HKB.out _ hBc3).1
      | exact (HKB.out _ hBc6).1
      | (have hk := (HKB.out _ hBc6).1; exact ⟨cell_set3 hk.1, cell_set3 hk.2.1, cell_set3 hk.2.2.1, cell_set3 hk.2.2.2.1, cell_set3 hk.2.2.2.2.1, cell_set3 hk.2.2.2.2.2⟩))
    (first
      | (go_at_call 70; with_reducible refine (ratio_times A B c d (rnum a) (rnum b) _ (H1.below hBs) (K1.below hBs) (by omega) (by omega)).mono ?_; rintro e w2 ⟨v2, rfl, hO2, hB2⟩; have hBc2 := hBs.trans (hB2.mono hBs.size))
      | (go_at_call 70; with_reducible refine (ratio_times A' B' c' d' a.den b.den _ (H2.below hBc2) (K2.below hBc2) (by omega) (by omega)).mono ?_; rintro e w3 ⟨v3, rfl, hO3, hB3⟩; have hBc3 := hBc2.trans (hB3.mono hBc2.size); obtain ⟨X, cx, rfl, hX⟩ := (hO2.below hB3).wl0; obtain ⟨Y, cy, rfl, hY⟩ := hO3.wl0)
      | (go_at_call 222; with_reducible refine (ratio_lowest (!(rneg a == rneg b)) X Y cx cy (rnum a * rnum b) (a.den * b.den) _ hX hY (by omega) (by omega) HP.out).mono ?_; rintro e w6 ⟨v, k, rfl, hA, hB6⟩; have hBc6 := hBc3.trans (hB6.mono hBc3.size); obtain ⟨_, r0, r1, r2, s0, s1, s2⟩ := HKB.out _ hBc6; obtain ⟨vb, vA, vn, vc, vA', vn', vc', rfl⟩ := hA.agg))
  have HA := Lib.hid hA
  have HL := Lib.hid (And.intro (show w.heap.size + 1 + 1 < w3.heap.size from by have := HS.out; have := hBc3.size; omega) (HB0.out.trans (hBc6.mono HB0.out.size)))
  have HE := Lib.hid (mul_frac a b)
  clear hBs hBc2 hBc3 hBc6 hB2 hB3 hB6 hA HKB hB1
  go_wp2_with fail
  exact bodyPost_ret (v := .tuple #[.agg #[.bool vb, .slice vA vn vc, .slice vA' vn' vc'], .int .i64 k]) (by simp [results, Tryz.results327, go_sem, r0, r1, r2]) rfl ⟨_, _, rfl, by rw [HE.out]; exact (HA.out.set3 HL.out.1).mono (by have := HL.out.1; omega), below_set3 HL.out.2 (by omega) _ _ _⟩

/-- where one may not be -/
theorem ratio_Add_no (g g2 : Bool) (A A' A2 A2' : Option Addr) (n n' c c' n2 n2' c2 c2' : Nat) (l l' l2 l2' : List Nat) (w : World) (h : Rd w A n c l) (h' : Rd w A' n' c' l') (h2 : Rd w A2 n2 c2 l2) (h2' : Rd w A2' n2' c2' l2') (hk : chk2 (chkR g l l') (chkR g2 l2 l2') ≠ 0) :
    Calls Tryz.prog 142 #[.agg #[.bool g, .slice A n c, .slice A' n' c'], .agg #[.bool g2, .slice A2 n2 c2, .slice A2' n2' c2']] w fun e w' => e = .returned (.tuple #[rt0, .int .i64 (chk2 (chkR g l l') (chkR g2 l2 l2'))]) ∧ Below w.heap.size w w' := by
  have hb0 : Below w.heap.size w (((w.alloc (.cells #[.bool g, .slice A n c, .slice A' n' c'] 24)).alloc (.cells #[.bool g2, .slice A2 n2 c2, .slice A2' n2' c2'] 24)).alloc (.cells #[.bool false, .slice none 0 0, .slice none 0 0] 24)) := (((Below.refl _ _).alloc (Nat.le_refl _) _).alloc (by simp) _).alloc (by simp; omega) _
  have KB := fun W => @boxes3 w W g g2 (.slice A n c) (.slice A' n' c') (.slice A2 n2 c2) (.slice A2' n2' c2') 24
  have HKB := Lib.hid KB
  have HB := Lib.hid hb0
  have H1 := h.below hb0
  have H2 := h'.below hb0
  have K1 := h2.below hb0
  have K2 := h2'.below hb0
  have HK := Lib.hid hk
  clear h h' h2 h2' hb0 hk KB
  go_enter Tryz.func142, Tryz.ntmps142
  go_wp2_with fail
  refine (ratio_checks g g2 A A' A2 A2' _ _ _ _ _ _ _ _ _ _ _ _ _ H1 H2 K1 K2).mono ?_
  rintro e w1 ⟨rfl, hB1⟩
  have HB1 := Lib.hid (HB.out.trans (hB1.mono HB.out.size))
  have e1 : (chk2 (chkR g l l') (chkR g2 l2 l2') != 0) = true := by simp [HK.out]
  obtain ⟨_, r0, r1, r2, s0, s1, s2⟩ := HKB.out _ hB1
  clear hB1 HKB
  go_wp2_with fail
  exact bodyPost_ret (v := .tuple #[rt0, .int .i64 (chk2 (chkR g l l') (chkR g2 l2 l2'))]) (by simp [rt0, results, Tryz.results142, go_sem, r0, r1, r2]) rfl ⟨rfl, below_set3 HB1.out (by omega) _ _ _⟩
/-- where one may not be -/
theorem ratio_Sub_no (g g2 : Bool) (A A' A2 A2' : Option Addr) (n n' c c' n2 n2' c2 c2' : Nat) (l l' l2 l2' : List Nat) (w : World) (h : Rd w A n c l) (h' : Rd w A' n' c' l') (h2 : Rd w A2 n2 c2 l2) (h2' : Rd w A2' n2' c2' l2') (hk : chk2 (chkR g l l') (chkR g2 l2 l2') ≠ 0) :
    Calls Tryz.prog 303 #[.agg #[.bool g, .slice A n c, .slice A' n' c'], .agg #[.bool g2, .slice A2 n2 c2, .slice A2' n2' c2']] w fun e w' => e = .returned (.tuple #[rt0, .int .i64 (chk2 (chkR g l l') (chkR g2 l2 l2'))]) ∧ Below w.heap.size w w' := by
  have hb0 : Below w.heap.size w (((w.alloc (.cells #[.bool g, .slice A n c, .slice A' n' c'] 24)).alloc (.cells #[.bool g2, .slice A2 n2 c2, .slice A2' n2' c2'] 24)).alloc (.cells #[.bool false, .slice none 0 0, .slice none 0 0] 24)) := (((Below.refl _ _).alloc (Nat.le_refl _) _).alloc (by simp) _).alloc (by simp; omega) _
  have KB := fun W => @boxes3 w W g g2 (.slice A n c) (.slice A' n' c') (.slice A2 n2 c2) (.slice A2' n2' c2') 24
  have HKB := Lib.hid KB
  have HB := Lib.hid hb0
  have H1 := h.below hb0
  have H2 := h'.below hb0
  have K1 := h2.below hb0
  have K2 := h2'.below hb0
  have HK := Lib.hid hk
  clear h h' h2 h2' hb0 hk KB
  go_enter Tryz.func303, Tryz.ntmps303
  go_wp2_with fail
  refine (ratio_checks g g2 A A' A2 A2' _ _ _ _ _ _ _ _ _ _ _ _ _ H1 H2 K1 K2).mono ?_
  rintro e w1 ⟨rfl, hB1⟩
  have HB1 := Lib.hid (HB.out.trans (hB1.mono HB.out.size))
  have e1 : (chk2 (chkR g l l') (chkR g2 l2 l2') != 0) = true := by simp [HK.out]
  obtain ⟨_, r0, r1, r2, s0, s1, s2⟩ := HKB.out _ hB1
  clear hB1 HKB
  go_wp2_with fail
  exact bodyPost_ret (v := .tuple #[rt0, .int .i64 (chk2 (chkR g l l') (chkR g2 l2 l2'))]) (by simp [rt0, results, Tryz.results303, go_sem, r0, r1, r2]) rfl ⟨rfl, below_set3 HB1.out (by omega) _ _ _⟩
/-- where one may not be -/
theorem ratio_Mul_no (g g2 : Bool) (A A' A2 A2' : Option Addr) (n n' c c' n2 n2' c2 c2' : Nat) (l l' l2 l2' : List Nat) (w : World) (h : Rd w A n c l) (h' : Rd w A' n' c' l') (h2 : Rd w A2 n2 c2 l2) (h2' : Rd w A2' n2' c2' l2') (hk : chk2 (chkR g l l') (chkR g2 l2 l2') ≠ 0) :
    Calls Tryz.prog 327 #[.agg #[.bool g, .slice A n c, .slice A' n' c'], .agg #[.bool g2, .slice A2 n2 c2, .slice A2' n2' c2']] w fun e w' => e = .returned (.tuple #[rt0, .int .i64 (chk2 (chkR g l l') (chkR g2 l2 l2'))]) ∧ Below w.heap.size w w' := by
  have hb0 : Below w.heap.size w (((w.alloc (.cells #[.bool g, .slice A n c, .slice A' n' c'] 24)).alloc (.cells #[.bool g2, .slice A2 n2 c2, .slice A2' n2' c2'] 24)).alloc (.cells #[.bool false, .slice none 0 0, .slice none 0 0] 24)) := (((Below.refl _ _).alloc (Nat.le_refl _) _).alloc (by simp) _).alloc (by simp; omega) _
  have KB := fun W => @boxes3 w W g g2 (.slice A n c) (.slice A' n' c') (.slice A2 n2 c2) (.slice A2' n2' c2') 24
  have HKB := Lib.hid KB
  have HB := Lib.hid hb0
  have H1 := h.below hb0
  have H2 := h'.below hb0
  have K1 := h2.below hb0
  have K2 := h2'.below hb0
  have HK := Lib.hid hk
  clear h h' h2 h2' hb0 hk KB
  go_enter Tryz.func327, Tryz.ntmps327
  go_wp2_with fail
  refine (ratio_checks g g2 A A' A2 A2' _ _ _ _ _ _ _ _ _ _ _ _ _ H1 H2 K1 K2).mono ?_
  rintro e w1 ⟨rfl, hB1⟩
  have HB1 := Lib.hid (HB.out.trans (hB1.mono HB.out.size))
  have e1 : (chk2 (chkR g l l') (chkR g2 l2 l2') != 0) = true := by simp [HK.out]
  obtain ⟨_, r0, r1, r2, s0, s1, s2⟩ := HKB.out _ hB1
  clear hB1 HKB
  go_wp2_with fail
  exact bodyPost_ret (v := .tuple #[rt0, .int .i64 (chk2 (chkR g l l') (chkR g2 l2 l2'))]) (by simp [rt0, results, Tryz.results327, go_sem, r0, r1, r2]) rfl ⟨rfl, below_set3 HB1.out (by omega) _ _ _⟩
end Go.Proofs.YtcbkijeonilcjaaGreat

/- Package gauss: fractions one behind the other. -/
namespace Go.Proofs.YtcbkijeonilcjaaGreat
open Go.RowKit

/-- nothing that was there is another one now, but block p -/
structure BelX (p : Nat) (w w' : World) : Prop where
  os : w'.os = w.os
  tape : w'.tape = w.tape
  output : w'.output = w.output
  size : w.heap.size ≤ w'.heap.size
  block : ∀ k, k < w.heap.size → k ≠ p → w'.heap[k]? = w.heap[k]?
theorem BelX.refl (p : Nat) (w : World) : BelX p w w := ⟨rfl, rfl, rfl, Nat.le_refl _, fun _ _ _ => rfl⟩
theorem BelX.trans {p : Nat} {a b c : World} (h : BelX p a b) (k : BelX p b c) : BelX p a c :=
  ⟨k.os.trans h.os, k.tape.trans h.tape, k.output.trans h.output, Nat.le_trans h.size k.size, fun i hi hp => (k.block i (by have := h.size; omega) hp).trans (h.block i hi hp)⟩
theorem toX {w w' : World} (h : Below w.heap.size w w') (p : Nat) : BelX p w w' := ⟨h.os, h.tape, h.output, h.size, fun k hk _ => h.block k hk⟩
theorem BelX.below {p B : Nat} {w w' : World} (h : BelX p w w') (hp : B ≤ p) (hB : B ≤ w.heap.size) : Below B w w' := ⟨h.os, h.tape, h.output, h.size, fun k hk => h.block k (by omega) (by omega)⟩
theorem BelX.drewN {p : Nat} {w w' : World} (h : BelX p w w') (n : Nat) : BelX p w (w'.drewN n) := ⟨h.os, h.tape, h.output, h.size, h.block⟩

/-- a way stands in block p -/
def Way (w : World) (p : Nat) (e : Int) : Prop := w.heap[p]? = some (.cells #[.int .i64 e] 251 (0, 0))
theorem Way.lt {w : World} {p : Nat} {e : Int} (h : Way w p e) : p < w.heap.size := (Array.getElem?_eq_some_iff.1 h).1
theorem Way.cell {w : World} {p : Nat} {e : Int} (h : Way w p e) : w.cell? ⟨p, 0, none⟩ = some (.int .i64 e) ∧ w.frozen? ⟨p, 0, none⟩ = false := by
  unfold Way at h
  constructor <;> simp [World.cell?, World.frozen?, h]
theorem Way.below {w w' : World} {p : Nat} {e : Int} (h : Way w p e) (hb : Below w.heap.size w w') : Way w' p e := (hb.block p h.lt).trans h
theorem Way.set {w : World} {p : Nat} {e : Int} (h : Way w p e) (e' : Int) : Way (w.setCell ⟨p, 0, none⟩ (.int .i64 e')) p e' ∧ BelX p w (w.setCell ⟨p, 0, none⟩ (.int .i64 e')) := by
  unfold Way at h ⊢
  refine ⟨?_, rfl, rfl, rfl, by simp, fun k hk hp => Below.heap_setCell _ _ _ _ hp⟩
  simp [World.setCell, Array.getElem?_modify, h]
theorem Way.no {w : World} {p : Nat} {e : Int} (h : Way w p e) (o n : Nat) : w.cell? ⟨p, o, none⟩ ≠ some (.int .u32 n) := by
  unfold Way at h
  rcases Nat.eq_zero_or_pos o with rfl | ho
  · simp [World.cell?, h]
  · have : (#[Value.int .i64 e] : Array Value)[o]? = none := by simp; omega
    simp [World.cell?, h, this]
theorem Rd.x {w w1 : World} {A : Option Addr} {n c p : Nat} {e : Int} {l : List Nat} (h : Rd w A n c l) (hp : Way w p e) (hb : BelX p w w1) : Rd w1 A n c l :=
  ⟨h.len, h.lim, h.cap, h.big, fun hn => by
    obtain ⟨b, o, e, hc⟩ := h.cell hn
    refine ⟨b, o, e, fun j hj => ?_⟩
    have h1 := hc j hj
    have hbp : b ≠ p := fun e => by rw [e] at h1; exact hp.no _ _ h1
    rw [World.cell?_of_block (a := ⟨b, o + j, none⟩) (hb.block b (World.block_lt_of_cell? w _ h1) hbp)]; exact h1⟩
theorem Ar.x {T : TypeId} {w w1 : World} {b o n c p : Nat} {e : Int} {l : List Nat} (h : Ar T w b o n c l) (hT : T ≠ 251) (hp : Way w p e) (hb : BelX p w w1) : Ar T w1 b o n c l := by
  refine h.of_block (hb.block b h.lt fun e => ?_)
  obtain ⟨cur, h1, _⟩ := h
  unfold Way at hp
  rw [← e, h1] at hp
  injection hp with hp; injection hp with _ hp; exact hT hp
theorem OwnR.x {w w1 : World} {lo hi p : Nat} {e : Int} {v : Value} {l : List Nat} (h : OwnR 116 w lo hi v l) (hp : Way w p e) (hb : BelX p w w1) : OwnR 116 w1 lo hi v l := by
  rcases h with h | ⟨b, o, n, c, rfl, h1, h2, hA⟩
  · exact .inl h
  · exact .inr ⟨b, o, n, c, rfl, h1, h2, hA.x (by decide) hp hb⟩
theorem RtO.x {w w1 : World} {lo hi p : Nat} {e : Int} {v : Value} {r : Rat} (h : RtO 116 w lo hi v r) (hp : Way w p e) (hb : BelX p w w1) : RtO 116 w1 lo hi v r := by
  obtain ⟨vn, vd, m, rfl, h1, h2, h3, h4⟩ := h
  exact ⟨vn, vd, m, rfl, h1, h2, h3.x hp hb, h4.x hp hb⟩

/-- a fraction in whatever form is read -/
def RawR (w : World) (v : Value) : Prop := ∃ g A n c l A' n' c' l', v = .agg #[.bool g, .slice A n c, .slice A' n' c'] ∧ Rd w A n c l ∧ Rd w A' n' c' l'
theorem RtR.raw {w : World} {v : Value} {r : Rat} (h : RtR w v r) : RawR w v := by
  obtain ⟨A, c, A', c', rfl, h1, h2⟩ := h
  exact ⟨_, _, _, _, _, _, _, _, _, rfl, h1, h2⟩
theorem RawR.below {w w1 : World} {v : Value} (h : RawR w v) (hb : Below w.heap.size w w1) : RawR w1 v := by
  obtain ⟨g, A, n, c, l, A', n', c', l', rfl, h1, h2⟩ := h
  exact ⟨_, _, _, _, _, _, _, _, _, rfl, h1.below hb, h2.below hb⟩
theorem RawR.x {w w1 : World} {v : Value} {p : Nat} {e : Int} (h : RawR w v) (hp : Way w p e) (hb : BelX p w w1) : RawR w1 v := by
  obtain ⟨g, A, n, c, l, A', n', c', l', rfl, h1, h2⟩ := h
  exact ⟨_, _, _, _, _, _, _, _, _, rfl, h1.x hp hb, h2.x hp hb⟩
theorem RtR.x {w w1 : World} {v : Value} {p : Nat} {e : Int} {r : Rat} (h : RtR w v r) (hp : Way w p e) (hb : BelX p w w1) : RtR w1 v r := by
  obtain ⟨A, c, A', c', rfl, h1, h2⟩ := h
  exact ⟨_, _, _, _, rfl, h1.x hp hb, h2.x hp hb⟩
theorem RawR.rt0 (w : World) : RawR w rt0 := ⟨_, _, _, _, _, _, _, _, _, rfl, Rd.nil w, Rd.nil w⟩

/-- a call's error is kept -/
theorem way_made (p : Nat) (e k : Int) (g : Bool) (A A' : Option Addr) (n n' c c' : Nat) (w : World) (hp : Way w p e) :
    Calls Tryz.prog 301 #[.pointer (some ⟨p, 0, none⟩), .agg #[.bool g, .slice A n c, .slice A' n' c'], .int .i64 k] w fun e1 w' =>
      (e = 0 → e1 = .returned (.agg #[.bool g, .slice A n c, .slice A' n' c']) ∧ Way w' p k) ∧ (e ≠ 0 → e1 = .returned rt0 ∧ Way w' p e) ∧ BelX p w w' := by
  have hb : Below w.heap.size w ((w.alloc (.cells #[.bool g, .slice A n c, .slice A' n' c'] 24)).alloc (.cells #[.bool false, .slice none 0 0, .slice none 0 0] 24)) := ((Below.refl _ _).alloc (Nat.le_refl _) _).alloc (by simp) _
  have hW := hp.below hb
  obtain ⟨q1, q2⟩ := hW.cell
  have HW := Lib.hid hW
  have HX := Lib.hid (toX hb p)
  have hlt := hp.lt
  clear hb hW
  rcases Int.decEq e 0 with h0 | h0
  · have e1 : (e != 0) = true := by simp [h0]
    have H0 := Lib.hid h0
    clear h0
    go_enter Tryz.func301, Tryz.ntmps301
    go_wp2
    exact bodyPost_ret (v := rt0) (by simp [rt0, results, Tryz.results301, go_sem]) rfl ⟨fun h => absurd h H0.out, fun _ => ⟨rfl, HW.out⟩, HX.out⟩
  · subst h0
    have HP := Lib.hid hp
    clear hp HW HX
    go_enter Tryz.func301, Tryz.ntmps301
    go_wp2
    have hw := (HP.out).set k
    have hb2 := ((Below.refl (w.setCell ⟨p, 0, none⟩ (.int .i64 k)).heap.size (w.setCell ⟨p, 0, none⟩ (.int .i64 k))).alloc (Nat.le_refl _) (.cells #[.bool g, .slice A n c, .slice A' n' c'] 24)).alloc (by simp) (.cells #[.bool g, .slice A n c, .slice A' n' c'] 24)
    exact bodyPost_ret (v := .agg #[.bool g, .slice A n c, .slice A' n' c']) (by simp [results, Tryz.results301, go_sem]) rfl ⟨fun _ => ⟨rfl, hw.1.below hb2⟩, fun h => absurd rfl h, hw.2.trans (toX hb2 p)⟩

/-- the error behind a step -/
def wayE (e : Int) (q : Rat) [Decidable (fits q)] : Int := if e ≠ 0 then e else if fits q then 0 else 3
instance (q : Rat) : Decidable (fits q) := by unfold fits; infer_instance

/-- a step's answer, made of any fractions -/
theorem ratio_any {g g2 : Bool} {A A' A2 A2' : Option Addr} {n n' c c' n2 n2' c2 c2' : Nat} {l l' l2 l2' : List Nat} {w : World} (h : Rd w A n c l) (h' : Rd w A' n' c' l') (h2 : Rd w A2 n2 c2 l2) (h2' : Rd w A2' n2' c2' l2') :
    chk2 (chkR g l l') (chkR g2 l2 l2') ≠ 0 ∨ ∃ a b : Rat, fits a ∧ fits b ∧ g = rneg a ∧ g2 = rneg b ∧ n = wl (rnum a) ∧ n' = wl a.den ∧ n2 = wl (rnum b) ∧ n2' = wl b.den ∧ l = wds (rnum a) ∧ l' = wds a.den ∧ l2 = wds (rnum b) ∧ l2' = wds b.den := by
  by_cases hk : chk2 (chkR g l l') (chkR g2 l2 l2') = 0
  · right
    obtain ⟨k1, k2⟩ := chk2_ok hk
    obtain ⟨a, a1, a2, a3, a4, _⟩ := chkR_ok h.lim h'.lim k1
    obtain ⟨b, b1, b2, b3, b4, _⟩ := chkR_ok h2.lim h2'.lim k2
    exact ⟨a, b, a1, b1, a2, b2, by rw [← h.len, a3]; rfl, by rw [← h'.len, a4]; rfl, by rw [← h2.len, b3]; rfl, by rw [← h2'.len, b4]; rfl, a3, a4, b3, b4⟩
  · exact .inl hk
theorem RtA.raw {T : TypeId} {w : World} {lo : Nat} {v : Value} {k : Int} {q : Rat} (h : RtA T w lo v k q) : RawR w v := by
  rcases h with ⟨_, _, h⟩ | ⟨_, _, rfl⟩
  · exact h.rd.raw
  · exact RawR.rt0 w
theorem ratio_Add_any {va vb : Value} (w : World) (ha : RawR w va) (hb : RawR w vb) :
    Calls Tryz.prog 142 #[va, vb] w fun e w' => ∃ v k, e = .returned (.tuple #[v, .int .i64 k]) ∧ RawR w' v ∧ Below w.heap.size w w' := by
  obtain ⟨g, A, n, c, l, A', n', c', l', rfl, h, h'⟩ := ha
  obtain ⟨g2, A2, n2, c2, l2, A2', n2', c2', l2', rfl, h2, h2'⟩ := hb
  rcases ratio_any (g := g) (g2 := g2) h h' h2 h2' with hk | ⟨a, b, fa, fb, rfl, rfl, rfl, rfl, rfl, rfl, rfl, rfl, rfl, rfl⟩
  · refine (ratio_Add_no g g2 A A' A2 A2' _ _ _ _ _ _ _ _ _ _ _ _ w h h' h2 h2' hk).mono ?_
    rintro e w' ⟨rfl, hB⟩
    exact ⟨_, _, rfl, RawR.rt0 _, hB⟩
  · refine (ratio_Add_ok a b A A' A2 A2' _ _ _ _ w h h' h2 h2' fa fb).mono ?_
    rintro e w' ⟨v, k, rfl, hA, hB⟩
    exact ⟨_, _, rfl, hA.raw, hB⟩
theorem ratio_Sub_any {va vb : Value} (w : World) (ha : RawR w va) (hb : RawR w vb) :
    Calls Tryz.prog 303 #[va, vb] w fun e w' => ∃ v k, e = .returned (.tuple #[v, .int .i64 k]) ∧ RawR w' v ∧ Below w.heap.size w w' := by
  obtain ⟨g, A, n, c, l, A', n', c', l', rfl, h, h'⟩ := ha
  obtain ⟨g2, A2, n2, c2, l2, A2', n2', c2', l2', rfl, h2, h2'⟩ := hb
  rcases ratio_any (g := g) (g2 := g2) h h' h2 h2' with hk | ⟨a, b, fa, fb, rfl, rfl, rfl, rfl, rfl, rfl, rfl, rfl, rfl, rfl⟩
  · refine (ratio_Sub_no g g2 A A' A2 A2' _ _ _ _ _ _ _ _ _ _ _ _ w h h' h2 h2' hk).mono ?_
    rintro e w' ⟨rfl, hB⟩
    exact ⟨_, _, rfl, RawR.rt0 _, hB⟩
  · refine (ratio_Sub_ok a b A A' A2 A2' _ _ _ _ w h h' h2 h2' fa fb).mono ?_
    rintro e w' ⟨v, k, rfl, hA, hB⟩
    exact ⟨_, _, rfl, hA.raw, hB⟩
theorem ratio_Mul_any {va vb : Value} (w : World) (ha : RawR w va) (hb : RawR w vb) :
    Calls Tryz.prog 327 #[va, vb] w fun e w' => ∃ v k, e = .returned (.tuple #[v, .int .i64 k]) ∧ RawR w' v ∧ Below w.heap.size w w' := by
  obtain ⟨g, A, n, c, l, A', n', c', l', rfl, h, h'⟩ := ha
  obtain ⟨g2, A2, n2, c2, l2, A2', n2', c2', l2', rfl, h2, h2'⟩ := hb
  rcases ratio_any (g := g) (g2 := g2) h h' h2 h2' with hk | ⟨a, b, fa, fb, rfl, rfl, rfl, rfl, rfl, rfl, rfl, rfl, rfl, rfl⟩
  · refine (ratio_Mul_no g g2 A A' A2 A2' _ _ _ _ _ _ _ _ _ _ _ _ w h h' h2 h2' hk).mono ?_
    rintro e w' ⟨rfl, hB⟩
    exact ⟨_, _, rfl, RawR.rt0 _, hB⟩
  · refine (ratio_Mul_ok a b A A' A2 A2' _ _ _ _ w h h' h2 h2' fa fb).mono ?_
    rintro e w' ⟨v, k, rfl, hA, hB⟩
    exact ⟨_, _, rfl, hA.raw, hB⟩
end Go.Proofs.YtcbkijeonilcjaaGreat
