/- Package ratio: sums, differences, products, small ones. -/
import Derived.Test.YtcbkijeonilcjaaGreatHC11
namespace Go.Proofs.YtcbkijeonilcjaaGreat
open Go.RowKit

set_option maxRecDepth 100000 in
set_option maxHeartbeats 1000000 in
theorem ratio_plus (a b : Rat) (A A' B B' : Option Addr) (c c' d d' : Nat) (w : World) (h : Rd w A (wl (rnum a)) c (wds (rnum a))) (h' : Rd w A' (wl a.den) c' (wds a.den)) (k : Rd w B (wl (rnum b)) d (wds (rnum b))) (k' : Rd w B' (wl b.den) d' (wds b.den)) (ha : fits a) (hb : fits b) :
    Calls Tryz.prog 224 #[.agg #[.bool (rneg a), .slice A (wl (rnum a)) c, .slice A' (wl a.den) c'], .agg #[.bool (rneg b), .slice B (wl (rnum b)) d, .slice B' (wl b.den) d']] w fun e w' => ∃ v k, e = .returned (.tuple #[v, .int .i64 k]) ∧ RtA 116 w' w.heap.size v k (a + b) ∧ Below w.heap.size w w' := by
  obtain ⟨f1, f2⟩ := ha
  obtain ⟨f3, f4⟩ := hb
  generalize hna : rneg a = na at *
  generalize hnb : rneg b = nb at *
  have hb0 : Below w.heap.size w (((w.alloc (.cells #[.bool na, .slice A (wl (rnum a)) c, .slice A' (wl a.den) c'] 24)).alloc (.cells #[.bool nb, .slice B (wl (rnum b)) d, .slice B' (wl b.den) d'] 24)).alloc (.cells #[.bool false, .slice none 0 0, .slice none 0 0] 24)) := (((Below.refl _ _).alloc (Nat.le_refl _) _).alloc (by simp) _).alloc (by simp; omega) _
  have KB := fun W => @boxes3 w W na nb (.slice A (wl (rnum a)) c) (.slice A' (wl a.den) c') (.slice B (wl (rnum b)) d) (.slice B' (wl b.den) d') 24
  have HNA := Lib.hid hna
  have HNB := Lib.hid hnb
  clear hna hnb
  have H1 := h.below hb0
  have H2 := h'.below hb0
  have K1 := k.below hb0
  have K2 := k'.below hb0
  have HB0 := Lib.hid hb0
  clear h h' k k' hb0
  have HZ : Hid (∀ W0, W0 = (((w.alloc (.cells #[.bool na, .slice A (wl (rnum a)) c, .slice A' (wl a.den) c'] 24)).alloc (.cells #[.bool nb, .slice B (wl (rnum b)) d, .slice B' (wl b.den) d'] 24)).alloc (.cells #[.bool false, .slice none 0 0, .slice none 0 0] 24)) → W0.heap.size = w.heap.size + 3) := by
    show ∀ W0, W0 = _ → _
    rintro W0 rfl; simp
  go_enter Tryz.func224, Tryz.ntmps224
  go_wp2_with fail
  generalize hW0 : (((w.alloc (.cells #[.bool na, .slice A (wl (rnum a)) c, .slice A' (wl a.den) c'] 24)).alloc (.cells #[.bool nb, .slice B (wl (rnum b)) d, .slice B' (wl b.den) d'] 24)).alloc (.cells #[.bool false, .slice none 0 0, .slice none 0 0] 24)) = W0 at *
  have HS := Lib.hid (HZ.out W0 rfl)
  have HKB := Lib.hid KB
  clear KB HZ hW0
  have hBs : Below W0.heap.size W0 W0.drew := below_drewN (Below.refl _ _) 1
  go_region_held3 (fun w' => w'.cell? ⟨w.heap.size, 1, none⟩ = some (.slice A (wl (rnum a)) c) ∧ w'.cell? ⟨w.heap.size, 2, none⟩ = some (.slice A' (wl a.den) c') ∧ w'.cell? ⟨w.heap.size + 1, 1, none⟩ = some (.slice B (wl (rnum b)) d) ∧ w'.cell? ⟨w.heap.size + 1, 2, none⟩ = some (.slice B' (wl b.den) d'))
    (first
      | (have hk := (HKB.out _ hBs).1; exact ⟨hk.2.1, hk.2.2.1, hk.2.2.2.2.1, hk.2.2.2.2.2⟩)
      | (have hk := (HKB.out _ hBc2).1; exact ⟨hk.2.1, hk.2.2.1, hk.2.2.2.2.1, hk.2.2.2.2.2⟩)
      | (have hk := (HKB.out _ hBc3).1; exact ⟨hk.2.1, hk.2.2.1, hk.2.2.2.2.1, hk.2.2.2.2.2⟩)
      | (have hk := (HKB.out _ hBc4).1; exact ⟨hk.2.1, hk.2.2.1, hk.2.2.2.2.1, hk.2.2.2.2.2⟩))
    (first
      | (go_at_call 70; with_reducible refine (ratio_times A B' c d' (rnum a) b.den _ (H1.below hBs) (K2.below hBs) (by omega) (by omega)).mono ?_; rintro e w2 ⟨v2, rfl, hO2, hB2⟩; have hBc2 := hBs.trans (hB2.mono hBs.size))
      | (go_at_call 70; with_reducible refine (ratio_times B A' d c' (rnum b) a.den _ (K1.below hBc2) (H2.below hBc2) (by omega) (by omega)).mono ?_; rintro e w3 ⟨v3, rfl, hO3, hB3⟩; have hBc3 := hBc2.trans (hB3.mono hBc2.size))
      | (go_at_call 70; with_reducible refine (ratio_times A' B' c' d' a.den b.den _ (H2.below hBc3) (K2.below hBc3) (by omega) (by omega)).mono ?_; rintro e w4 ⟨v4, rfl, hO4, hB4⟩; have hBc4 := hBc3.trans (hB4.mono hBc3.size)))
  obtain ⟨X, cx, rfl, hX⟩ := ((hO2.below hB3).below hB4).wl0
  obtain ⟨Y, cy, rfl, hY⟩ := (hO3.below hB4).wl0
  obtain ⟨D, cd, rfl, hD⟩ := hO4.wl0
  obtain ⟨⟨x0, _, _, y0, _, _⟩, _⟩ := HKB.out _ hBc4
  have HBF := Lib.hid (show Below w.heap.size w w4 from HB0.out.trans (hBc4.mono HB0.out.size))
  have lx : wl (rnum a * b.den) ≤ 4096 := Nat.le_trans (wl_mul _ _) (by omega)
  have ly : wl (rnum b * a.den) ≤ 4096 := Nat.le_trans (wl_mul _ _) (by omega)
  have ld : wl (a.den * b.den) ≤ 4096 := Nat.le_trans (wl_mul _ _) (by omega)
  have HP : Hid (0 < a.den * b.den) := Nat.mul_pos a.den_pos b.den_pos
  have HB4 := Lib.hid hBc4
  clear hO2 hO3 hO4 hB2 hB3 hB4 hBc2 hBc3 hBc4 hBs
  cases na <;> cases nb
  · have hsum : wl (rnum a * b.den + rnum b * a.den) ≤ 8192 := Nat.le_trans (wl_add _ _) (by omega)
    go_wp2_with fail
    refine (nat_Add X Y cx cy _ _ _ hX hY (by omega) (by omega) hsum).mono ?_
    rintro e w5 ⟨v5, rfl, hO5, hB5⟩
    have hBc5 := HB4.out.trans (hB5.mono HB4.out.size)
    obtain ⟨⟨z0, _, _, u0, _, _⟩, _⟩ := HKB.out _ hBc5
    obtain ⟨Z, cz, rfl, hZ⟩ := hO5.wl0
    go_wp2_with fail
    refine (ratio_lowest false Z D cz cd _ (a.den * b.den) _ hZ (hD.below hB5) (by omega) (by omega) HP.out).mono ?_
    rintro e w6 ⟨v, k, rfl, hA, hB6⟩
    have hBc6 := hBc5.trans (hB6.mono hBc5.size)
    obtain ⟨_, r0, r1, r2, s0, s1, s2⟩ := HKB.out _ hBc6
    obtain ⟨vb, vA, vn, vc, vA', vn', vc', rfl⟩ := hA.agg
    have hlt : w.heap.size + 1 + 1 < w5.heap.size := by have := HS.out; have := hBc5.size; omega
    have HA := Lib.hid hA
    have HL := Lib.hid (And.intro hlt (HB0.out.trans (hBc6.mono HB0.out.size)))
    clear hA hlt hBc5 hBc6 hB5 hB6 hO5
    go_wp2_with fail
    exact bodyPost_ret (v := .tuple #[.agg #[.bool vb, .slice vA vn vc, .slice vA' vn' vc'], .int .i64 k]) (by simp [results, Tryz.results224, go_sem, r0, r1, r2]) rfl ⟨_, _, rfl, by rw [add_same (HNA.out.trans HNB.out.symm), HNA.out]; exact (HA.out.set3 HL.out.1).mono (by have := HL.out.1; omega), below_set3 HL.out.2 (by omega) _ _ _⟩
  · go_wp2_with fail
    refine (nat_Compare X Y _ cx _ cy _ _ _ _ _ hX hY (val_wds _) (val_wds _)).mono ?_
    rintro e w4' ⟨rfl, n4, rfl⟩
    have hne : Hid (rneg a ≠ rneg b) := by show rneg a ≠ rneg b; rw [HNA.out, HNB.out]; decide
    have HB4 := Lib.hid (below_drewN HB4.out n4)
    by_cases hlt : rnum a * b.den < rnum b * a.den
    · have hcm : Hid (cmpN (rnum a * b.den) (rnum b * a.den) = -1) := by show cmpN _ _ = -1; unfold cmpN; rw [if_pos hlt]
      have hle : Hid (wl (rnum b * a.den - rnum a * b.den) ≤ 4096) := Nat.le_trans (wl_mono (Nat.sub_le _ _)) ly
      have HLT := Lib.hid hlt
      clear hlt
      rw [hcm.out]
      have hY := hY.drewN n4
      have hX := hX.drewN n4
      have hD := hD.drewN n4
      go_wp2_with fail
      refine (nat_Sub Y X cy cx _ _ _ hY hX (by omega) (Nat.le_of_lt HLT.out)).mono ?_
      rintro e w5 ⟨v5, rfl, hO5, hB5⟩
      have hle := hle.out
      have hBc5 := HB4.out.trans (hB5.mono HB4.out.size)
      obtain ⟨⟨z0, _, _, u0, _, _⟩, _⟩ := HKB.out _ hBc5
      obtain ⟨Z, cz, rfl, hZ⟩ := hO5.wl0
      go_wp2_with fail
      refine (ratio_lowest true Z D cz cd _ (a.den * b.den) _ hZ (hD.below hB5) (by omega) (by omega) HP.out).mono ?_
      rintro e w6 ⟨v, k, rfl, hA, hB6⟩
      have hBc6 := hBc5.trans (hB6.mono hBc5.size)
      obtain ⟨_, r0, r1, r2, s0, s1, s2⟩ := HKB.out _ hBc6
      obtain ⟨vb, vA, vn, vc, vA', vn', vc', rfl⟩ := hA.agg
      have hlt : w.heap.size + 1 + 1 < w5.heap.size := by have := HS.out; have := hBc5.size; omega
      have HA := Lib.hid hA
      have HL := Lib.hid (And.intro hlt (HB0.out.trans (hBc6.mono HB0.out.size)))
      clear hA hlt hBc5 hBc6 hB5 hB6 hO5
      go_wp2_with fail
      exact bodyPost_ret (v := .tuple #[.agg #[.bool vb, .slice vA vn vc, .slice vA' vn' vc'], .int .i64 k]) (by simp [results, Tryz.results224, go_sem, r0, r1, r2]) rfl ⟨_, _, rfl, by rw [add_lt hne.out HLT.out, HNB.out]; exact (HA.out.set3 HL.out.1).mono (by have := HL.out.1; omega), below_set3 HL.out.2 (by omega) _ _ _⟩
    · have hcm : Hid (0 ≤ cmpN (rnum a * b.den) (rnum b * a.den)) := by show 0 ≤ cmpN _ _; unfold cmpN; rw [if_neg hlt]; split <;> omega
      have hle : Hid (wl (rnum a * b.den - rnum b * a.den) ≤ 4096) := Nat.le_trans (wl_mono (Nat.sub_le _ _)) lx
      have HLT := Lib.hid (Nat.le_of_not_lt hlt)
      clear hlt
      have e1 : (cmpN (rnum a * b.den) (rnum b * a.den) < 0) = False := by simpa using hcm.out
      have hY := hY.drewN n4
      have hX := hX.drewN n4
      have hD := hD.drewN n4
      go_wp2_with fail
      refine (nat_Sub X Y cx cy _ _ _ hX hY (by omega) HLT.out).mono ?_
      rintro e w5 ⟨v5, rfl, hO5, hB5⟩
      have hle := hle.out
      clear e1
      have hBc5 := HB4.out.trans (hB5.mono HB4.out.size)
      obtain ⟨⟨z0, _, _, u0, _, _⟩, _⟩ := HKB.out _ hBc5
      obtain ⟨Z, cz, rfl, hZ⟩ := hO5.wl0
      go_wp2_with fail
      refine (ratio_lowest false Z D cz cd _ (a.den * b.den) _ hZ (hD.below hB5) (by omega) (by omega) HP.out).mono ?_
      rintro e w6 ⟨v, k, rfl, hA, hB6⟩
      have hBc6 := hBc5.trans (hB6.mono hBc5.size)
      obtain ⟨_, r0, r1, r2, s0, s1, s2⟩ := HKB.out _ hBc6
      obtain ⟨vb, vA, vn, vc, vA', vn', vc', rfl⟩ := hA.agg
      have hlt : w.heap.size + 1 + 1 < w5.heap.size := by have := HS.out; have := hBc5.size; omega
      have HA := Lib.hid hA
      have HL := Lib.hid (And.intro hlt (HB0.out.trans (hBc6.mono HB0.out.size)))
      clear hA hlt hBc5 hBc6 hB5 hB6 hO5
      go_wp2_with fail
      exact bodyPost_ret (v := .tuple #[.agg #[.bool vb, .slice vA vn vc, .slice vA' vn' vc'], .int .i64 k]) (by simp [results, Tryz.results224, go_sem, r0, r1, r2]) rfl ⟨_, _, rfl, by rw [add_ge hne.out HLT.out, HNA.out]; exact (HA.out.set3 HL.out.1).mono (by have := HL.out.1; omega), below_set3 HL.out.2 (by omega) _ _ _⟩
  · go_wp2_with fail
    refine (nat_Compare X Y _ cx _ cy _ _ _ _ _ hX hY (val_wds _) (val_wds _)).mono ?_
    rintro e w4' ⟨rfl, n4, rfl⟩
    have hne : Hid (rneg a ≠ rneg b) := by show rneg a ≠ rneg b; rw [HNA.out, HNB.out]; decide
    have HB4 := Lib.hid (below_drewN HB4.out n4)
    by_cases hlt : rnum a * b.den < rnum b * a.den
    · have hcm : Hid (cmpN (rnum a * b.den) (rnum b * a.den) = -1) := by show cmpN _ _ = -1; unfold cmpN; rw [if_pos hlt]
      have hle : Hid (wl (rnum b * a.den - rnum a * b.den) ≤ 4096) := Nat.le_trans (wl_mono (Nat.sub_le _ _)) ly
      have HLT := Lib.hid hlt
      clear hlt
      rw [hcm.out]
      have hY := hY.drewN n4
      have hX := hX.drewN n4
      have hD := hD.drewN n4
      go_wp2_with fail
      refine (nat_Sub Y X cy cx _ _ _ hY hX (by omega) (Nat.le_of_lt HLT.out)).mono ?_
      rintro e w5 ⟨v5, rfl, hO5, hB5⟩
      have hle := hle.out
      have hBc5 := HB4.out.trans (hB5.mono HB4.out.size)
      obtain ⟨⟨z0, _, _, u0, _, _⟩, _⟩ := HKB.out _ hBc5
      obtain ⟨Z, cz, rfl, hZ⟩ := hO5.wl0
      go_wp2_with fail
      refine (ratio_lowest false Z D cz cd _ (a.den * b.den) _ hZ (hD.below hB5) (by omega) (by omega) HP.out).mono ?_
      rintro e w6 ⟨v, k, rfl, hA, hB6⟩
      have hBc6 := hBc5.trans (hB6.mono hBc5.size)
      obtain ⟨_, r0, r1, r2, s0, s1, s2⟩ := HKB.out _ hBc6
      obtain ⟨vb, vA, vn, vc, vA', vn', vc', rfl⟩ := hA.agg
      have hlt : w.heap.size + 1 + 1 < w5.heap.size := by have := HS.out; have := hBc5.size; omega
      have HA := Lib.hid hA
      have HL := Lib.hid (And.intro hlt (HB0.out.trans (hBc6.mono HB0.out.size)))
      clear hA hlt hBc5 hBc6 hB5 hB6 hO5
      go_wp2_with fail
      exact bodyPost_ret (v := .tuple #[.agg #[.bool vb, .slice vA vn vc, .slice vA' vn' vc'], .int .i64 k]) (by simp [results, Tryz.results224, go_sem, r0, r1, r2]) rfl ⟨_, _, rfl, by rw [add_lt hne.out HLT.out, HNB.out]; exact (HA.out.set3 HL.out.1).mono (by have := HL.out.1; omega), below_set3 HL.out.2 (by omega) _ _ _⟩
    · have hcm : Hid (0 ≤ cmpN (rnum a * b.den) (rnum b * a.den)) := by show 0 ≤ cmpN _ _; unfold cmpN; rw [if_neg hlt]; split <;> omega
      have hle : Hid (wl (rnum a * b.den - rnum b * a.den) ≤ 4096) := Nat.le_trans (wl_mono (Nat.sub_le _ _)) lx
      have HLT := Lib.hid (Nat.le_of_not_lt hlt)
      clear hlt
      have e1 : (cmpN (rnum a * b.den) (rnum b * a.den) < 0) = False := by simpa using hcm.out
      have hY := hY.drewN n4
      have hX := hX.drewN n4
      have hD := hD.drewN n4
      go_wp2_with fail
      refine (nat_Sub X Y cx cy _ _ _ hX hY (by omega) HLT.out).mono ?_
      rintro e w5 ⟨v5, rfl, hO5, hB5⟩
      have hle := hle.out
      clear e1
      have hBc5 := HB4.out.trans (hB5.mono HB4.out.size)
      obtain ⟨⟨z0, _, _, u0, _, _⟩, _⟩ := HKB.out _ hBc5
      obtain ⟨Z, cz, rfl, hZ⟩ := hO5.wl0
      go_wp2_with fail
      refine (ratio_lowest true Z D cz cd _ (a.den * b.den) _ hZ (hD.below hB5) (by omega) (by omega) HP.out).mono ?_
      rintro e w6 ⟨v, k, rfl, hA, hB6⟩
      have hBc6 := hBc5.trans (hB6.mono hBc5.size)
      obtain ⟨_, r0, r1, r2, s0, s1, s2⟩ := HKB.out _ hBc6
      obtain ⟨vb, vA, vn, vc, vA', vn', vc', rfl⟩ := hA.agg
      have hlt : w.heap.size + 1 + 1 < w5.heap.size := by have := HS.out; have := hBc5.size; omega
      have HA := Lib.hid hA
      have HL := Lib.hid (And.intro hlt (HB0.out.trans (hBc6.mono HB0.out.size)))
      clear hA hlt hBc5 hBc6 hB5 hB6 hO5
      go_wp2_with fail
      exact bodyPost_ret (v := .tuple #[.agg #[.bool vb, .slice vA vn vc, .slice vA' vn' vc'], .int .i64 k]) (by simp [results, Tryz.results224, go_sem, r0, r1, r2]) rfl ⟨_, _, rfl, by rw [add_ge hne.out HLT.out, HNA.out]; exact (HA.out.set3 HL.out.1).mono (by have := HL.out.1; omega), below_set3 HL.out.2 (by omega) _ _ _⟩
  · have hsum : wl (rnum a * b.den + rnum b * a.den) ≤ 8192 := Nat.le_trans (wl_add _ _) (by omega)
    go_wp2_with fail
    refine (nat_Add X Y cx cy _ _ _ hX hY (by omega) (by omega) hsum).mono ?_
    rintro e w5 ⟨v5, rfl, hO5, hB5⟩
    have hBc5 := HB4.out.trans (hB5.mono HB4.out.size)
    obtain ⟨⟨z0, _, _, u0, _, _⟩, _⟩ := HKB.out _ hBc5
    obtain ⟨Z, cz, rfl, hZ⟩ := hO5.wl0
    go_wp2_with fail
    refine (ratio_lowest true Z D cz cd _ (a.den * b.den) _ hZ (hD.below hB5) (by omega) (by omega) HP.out).mono ?_
    rintro e w6 ⟨v, k, rfl, hA, hB6⟩
    have hBc6 := hBc5.trans (hB6.mono hBc5.size)
    obtain ⟨_, r0, r1, r2, s0, s1, s2⟩ := HKB.out _ hBc6
    obtain ⟨vb, vA, vn, vc, vA', vn', vc', rfl⟩ := hA.agg
    have hlt : w.heap.size + 1 + 1 < w5.heap.size := by have := HS.out; have := hBc5.size; omega
    have HA := Lib.hid hA
    have HL := Lib.hid (And.intro hlt (HB0.out.trans (hBc6.mono HB0.out.size)))
    clear hA hlt hBc5 hBc6 hB5 hB6 hO5
    go_wp2_with fail
    exact bodyPost_ret (v := .tuple #[.agg #[.bool vb, .slice vA vn vc, .slice vA' vn' vc'], .int .i64 k]) (by simp [results, Tryz.results224, go_sem, r0, r1, r2]) rfl ⟨_, _, rfl, by rw [add_same (HNA.out.trans HNB.out.symm), HNA.out]; exact (HA.out.set3 HL.out.1).mono (by have := HL.out.1; omega), below_set3 HL.out.2 (by omega) _ _ _⟩
end Go.Proofs.YtcbkijeonilcjaaGreat

/- Package ratio: sums, differences, products, small ones. -/
namespace Go.Proofs.YtcbkijeonilcjaaGreat
open Go.RowKit

theorem ratio_turned (b : Rat) (A A' : Option Addr) (c c' : Nat) (w : World) :
    Calls Tryz.prog 328 #[.agg #[.bool (rneg b), .slice A (wl (rnum b)) c, .slice A' (wl b.den) c']] w fun e w' => e = .returned (.agg #[.bool (rneg (-b)), .slice A (wl (rnum b)) c, .slice A' (wl b.den) c']) ∧ Below w.heap.size w w' := by
  have HN : Hid (rneg (-b) = (!rneg b && decide (0 < wl (rnum b)))) := by
    show rneg (-b) = _
    rw [neg_rneg]; congr 2; exact propext wl_pos_iff.symm
  generalize rneg (-b) = q at *
  cases hnb : rneg b
  all_goals
    rw [hnb] at HN
    clear hnb
    go_enter Tryz.func328, Tryz.ntmps328
    go_wp2
  · exact bodyPost_ret (v := .agg #[.bool (decide (0 < wl (rnum b))), .slice A (wl (rnum b)) c, .slice A' (wl b.den) c']) (by simp [results, Tryz.results328, go_sem]) rfl ⟨by rw [HN.out]; simp, ((Below.refl _ _).alloc (Nat.le_refl _) _).alloc (by simp) _⟩
  · exact bodyPost_ret (v := .agg #[.bool false, .slice A (wl (rnum b)) c, .slice A' (wl b.den) c']) (by simp [results, Tryz.results328, go_sem]) rfl ⟨by rw [HN.out]; simp, ((Below.refl _ _).alloc (Nat.le_refl _) _).alloc (by simp) _⟩

theorem ratio_size (n : Int) (w : World) (h1 : -17592186044416 ≤ n) (h2 : n ≤ 17592186044416) :
    Calls Tryz.prog 223 #[.int .i64 n] w fun e w' => ∃ v, e = .returned v ∧ Own 116 w' w.heap.size v (wds n.natAbs) ∧ Below w.heap.size w w' := by
  by_cases h0 : n < 0
  · go_enter Tryz.func223, Tryz.ntmps223
    go_wp2_with fail
    rw [show IntKind.u64.wrap (-IntKind.u64.wrap n) = ((n.natAbs : Nat) : Int) from by rw [wrap_u64', wrap_u64']; omega]
    refine (nat_Of n.natAbs _ (by omega)).mono ?_
    rintro e w1 ⟨v, rfl, hO, hB⟩
    go_wp2
    go_ret
    exact ⟨v, rfl, hO, hB⟩
  · go_enter Tryz.func223, Tryz.ntmps223
    go_wp2_with fail
    rw [show n = ((n.natAbs : Nat) : Int) from by omega]
    refine (nat_Of n.natAbs _ (by omega)).mono ?_
    rintro e w1 ⟨v, rfl, hO, hB⟩
    go_wp2
    go_ret
    exact ⟨v, rfl, by simpa using hO, hB⟩

/-- a fraction of two small whole numbers -/
theorem ratio_Small (n d : Int) (w : World) (h1 : -17592186044416 ≤ n) (h2 : n ≤ 17592186044416) (h3 : 0 < d) (h4 : d ≤ 17592186044416) :
    Calls Tryz.prog 135 #[.int .i64 n, .int .i64 d] w fun e w' => ∃ v, e = .returned (.tuple #[v, .int .i64 0]) ∧ RtO 116 w' w.heap.size w'.heap.size v (mkRat n d.natAbs) ∧ Below w.heap.size w w' := by
  have e1 : (d == 0) = false := by simp; omega
  have e2 : (d < 0) = False := by simp; omega
  have HD : Hid (0 < d.natAbs ∧ wl n.natAbs ≤ 2 ∧ wl d.natAbs ≤ 2) := ⟨by omega, (@wl_le n.natAbs 2).2 (by omega), (@wl_le d.natAbs 2).2 (by omega)⟩
  have HE : Hid (mkRat n d.natAbs = frac (decide (n < 0)) n.natAbs d.natAbs) := by
    show mkRat n d.natAbs = frac (decide (n < 0)) n.natAbs d.natAbs
    unfold frac; congr 1; unfold sg
    by_cases h : n < 0
    · rw [decide_eq_true h, if_pos rfl]; omega
    · rw [decide_eq_false h, if_neg (by simp)]; omega
  have HG := Lib.hid (And.intro h1 (And.intro h2 (And.intro h3 h4)))
  clear h1 h2 h3 h4
  generalize hs : decide (n < 0) = s at HE
  go_enter Tryz.func135, Tryz.ntmps135
  go_wp2_with fail
  refine (ratio_size n _ HG.out.1 HG.out.2.1).mono ?_
  rintro e w1 ⟨v1, rfl, hO1, hB1⟩
  go_wp2_with fail
  refine (ratio_size d _ (by have := HG.out; omega) HG.out.2.2.2).mono ?_
  rintro e w2 ⟨v2, rfl, hO2, hB2⟩
  obtain ⟨A, c, rfl, hA⟩ := (hO1.below hB2).wl0
  obtain ⟨B, d', rfl, hB⟩ := hO2.wl0
  go_wp2_with fail
  refine (ratio_lowest s A B c d' n.natAbs d.natAbs _ hA hB (by have := HD.out; omega) (by have := HD.out; omega) HD.out.1).mono ?_
  rintro e w3 ⟨v, k, rfl, hR, hB3⟩
  have hs1 := hB1.size
  have hs2 := hB2.size
  simp only [World.size_alloc] at hs1
  have hW : w3.heap[w.heap.size]? = some (.cells #[.bool false, .slice none 0 0, .slice none 0 0] 24) := by
    rw [hB3.block _ (by omega), hB2.block _ (by omega), hB1.block _ (by simp)]
    exact heap_alloc_new w _
  obtain ⟨r0, r1, r2, s0, s1, s2⟩ := cell3 hW
  have hfit : fits (frac s n.natAbs d.natAbs) := by
    have := HD.out
    refine ⟨?_, ?_⟩
    · rw [frac_num _ _ this.1]; exact Nat.le_trans (wl_gcd_div _ _) (by omega)
    · rw [frac_den _ _ this.1]; exact Nat.le_trans (wl_mono (Nat.div_le_self _ _)) (by omega)
  obtain ⟨rfl, hO⟩ : k = 0 ∧ RtO 116 w3 w2.heap.size w3.heap.size v (frac s n.natAbs d.natAbs) := by
    rcases hR with ⟨_, h, h'⟩ | ⟨h, _⟩
    · exact ⟨h, h'⟩
    · exact absurd hfit h
  obtain ⟨vb, vA, vn, vc, vA', vn', vc', rfl⟩ := hO.agg
  have HO := Lib.hid hO
  have HL : Hid (w.heap.size < w2.heap.size ∧ Below w.heap.size w w3) := ⟨by omega, ((Below.refl _ _).alloc (Nat.le_refl _) _).trans ((hB1.mono (by simp)).trans ((hB2.mono (by omega)).trans (hB3.mono (by omega))))⟩
  clear hR hO hB1 hB2 hB3 hW hs1 hs2 hfit hA hB hO1 hO2
  go_wp2_with fail
  exact bodyPost_ret (v := .tuple #[.agg #[.bool vb, .slice vA vn vc, .slice vA' vn' vc'], .int .i64 0]) (by simp [results, Tryz.results135, go_sem, r0, r1, r2]) rfl ⟨_, rfl, by rw [HE.out]; exact (HO.out.set3 HL.out.1).mono (Nat.le_of_lt HL.out.1) (by simp), below_set3 HL.out.2 (Nat.le_refl _) _ _ _⟩
end Go.Proofs.YtcbkijeonilcjaaGreat
