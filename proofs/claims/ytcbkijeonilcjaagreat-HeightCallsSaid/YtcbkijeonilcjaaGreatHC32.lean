/- The reference's near. -/
import Derived.Test.YtcbkijeonilcjaaGreatHC10
import Derived.Test.YtcbkijeonilcjaaGreatHC31
namespace Go.Proofs.YtcbkijeonilcjaaGreat
open Go.RowKit

theorem cmpN_cases (x y : Nat) : cmpN x y = -1 ∨ cmpN x y = 0 ∨ cmpN x y = 1 := by
  unfold cmpN
  split
  · exact .inl rfl
  · split
    · exact .inr (.inr rfl)
    · exact .inr (.inl rfl)
theorem nrB_ref {r : Rat} (h0 : rnum r ≠ 0) : nrB r = (decide (0 ≤ cmpN (rnum r * hiN) r.den) && decide (cmpN (rnum r) (r.den * hiN) ≤ 0)) := by
  unfold nrB nrK
  rw [← hiN_pow, decide_eq_false h0, Bool.false_or]
  have e1 : decide (rnum r ≤ r.den * hiN) = decide (cmpN (rnum r) (r.den * hiN) ≤ 0) := by
    rw [decide_eq_decide]
    unfold cmpN
    split
    · simp; omega
    · split <;> simp <;> omega
  have e2 : decide (r.den ≤ rnum r * hiN) = decide (0 ≤ cmpN (rnum r * hiN) r.den) := by
    rw [decide_eq_decide]
    unfold cmpN
    split
    · simp; omega
    · split <;> simp <;> omega
  rw [e1, e2]
set_option maxRecDepth 100000 in
set_option maxHeartbeats 1000000 in
theorem ref16_near_core {H x y d d' : Nat} {B B' : Option Addr} {g res : Bool} {k1 k2 : Int} (w : World) (HN : Hid (x ≠ 0 → res = (decide (0 ≤ k1) && decide (k2 ≤ 0)))) (HZ : Hid (x = 0 → res = true))
    (HU1 : Hid (∀ w', Below w.heap.size w w' → Calls Tryz.prog 221 #[.slice B (wl x) d, .int .i64 500] w' fun e w'' => ∃ v, e = .returned v ∧ Own 116 w'' w'.heap.size v (wds (x * H)) ∧ Below w'.heap.size w' w''))
    (HU2 : Hid (∀ w', Below w.heap.size w w' → Calls Tryz.prog 221 #[.slice B' (wl y) d', .int .i64 500] w' fun e w'' => ∃ v, e = .returned v ∧ Own 116 w'' w'.heap.size v (wds (y * H)) ∧ Below w'.heap.size w' w''))
    (HC1 : Hid (∀ w' X cx, Rd w' X (wl (x * H)) cx (wds (x * H)) → Below w.heap.size w w' → Calls Tryz.prog 220 #[.slice X (wl (x * H)) cx, .slice B' (wl y) d'] w' fun e w'' => e = .returned (.int .i64 k1) ∧ Drn w' w''))
    (HC2 : Hid (∀ w' X cx, Rd w' X (wl (y * H)) cx (wds (y * H)) → Below w.heap.size w w' → Calls Tryz.prog 220 #[.slice B (wl x) d, .slice X (wl (y * H)) cx] w' fun e w'' => e = .returned (.int .i64 k2) ∧ Drn w' w'')) :
    Calls Tryz.prog 132 #[.agg #[.bool g, .slice B (wl x) d, .slice B' (wl y) d']] w fun e w' => e = .returned (.bool res) ∧ Below w.heap.size w w' := by
  obtain ⟨W0, hW0⟩ : ∃ W, w.alloc (.cells #[.bool g, .slice B (wl x) d, .slice B' (wl y) d'] 24) = W := ⟨_, rfl⟩
  have hb0 : Below w.heap.size w W0 := by rw [← hW0]; exact (Below.refl _ _).alloc (Nat.le_refl _) _
  have k0 : W0.heap[w.heap.size]? = some (.cells #[.bool g, .slice B (wl x) d, .slice B' (wl y) d'] 24) := by rw [← hW0]; exact heap_alloc_new w _
  have HB0 := Lib.hid (And.intro hb0 k0)
  have HL := Lib.hid (fun w' (hB : Below W0.heap.size W0 w') => (show w'.cell? ⟨w.heap.size, 1, none⟩ = some (.slice B (wl x) d) ∧ w'.cell? ⟨w.heap.size, 2, none⟩ = some (.slice B' (wl y) d') from ⟨(cell3 (blk_below hB k0)).2.1, (cell3 (blk_below hB k0)).2.2.1⟩))
  obtain ⟨r0, r1, r2, r3, r4, r5⟩ := cell3 k0
  clear hb0 k0
  by_cases hx : x = 0
  · have HE := Lib.hid (HZ.out hx)
    have hwx : wl x = 0 := wl_eq_zero.2 hx
    have e0 : ((wl x : Int) == 0) = true := by rw [hwx]; rfl
    clear hx hwx
    go_enter Tryz.func132, Tryz.ntmps132
    go_wp2_with fail
    go_ret
    exact ⟨ret_bool HE.out.symm, HB0.out.1⟩
  · have hwx : 0 < wl x := by have := wl_eq_zero (x := x); omega
    have e0 : ((wl x : Int) == 0) = false := by simp; omega
    have HE := Lib.hid (HN.out hx)
    clear hx hwx
    have hBv : True := trivial
    obtain ⟨b1, hb1⟩ : ∃ b, decide (0 ≤ k1) = b := ⟨_, rfl⟩
    cases b1
    · have hk1 : (0 ≤ k1) = False := by simpa using hb1
      have HE2 : Hid (res = false) := by show res = false; rw [HE.out, hb1]; rfl
      have hk2 : k1 < 0 := by simpa using hb1
      clear hk1
      go_enter Tryz.func132, Tryz.ntmps132
      go_upto_region 3 with fail
      have HW0 := Lib.hid hW0
      clear hW0 r0 r3 r4 r5
      have hBs : Below W0.heap.size W0 W0.drew := below_drewN (Below.refl _ _) 1
      (first | (go_region_with (first
          | (go_at_call 221; (with_reducible refine (HU1.out _ (bel_step HB0.out.1 hBs)).mono ?_); rintro e w2 ⟨v2, rfl, hO2, hB2⟩; obtain ⟨X2, c2, rfl, hX2⟩ := hO2.wl0; have hBc2 := bel_step hBs hB2; obtain ⟨y1, y2⟩ := HL.out _ hBc2)
          | (go_at_call 220; (with_reducible refine (HC1.out _ _ _ hX2 (bel_step HB0.out.1 hBc2)).mono ?_); rintro e w3 ⟨rfl, hD3⟩; have hBc3 := bel_step hBc2 (hD3.below _)))) | fail "no way")
      all_goals
        go_wp2_with fail
        go_ret
        exact ⟨ret_bool HE2.out.symm, bel_step HB0.out.1 hBc3⟩
    · have hk1 : (0 ≤ k1) = True := by simpa using hb1
      have HE2 : Hid (res = decide (k2 ≤ 0)) := by show res = _; rw [HE.out, hb1]; rfl
      clear hb1
      go_enter Tryz.func132, Tryz.ntmps132
      go_upto_region 3 with fail
      have HW0 := Lib.hid hW0
      clear hW0 r0 r1 r2 r3 r4 r5
      have hBs : Below W0.heap.size W0 W0.drew := below_drewN (Below.refl _ _) 1
      (first | (go_region_held3 (fun w' => w'.cell? ⟨w.heap.size, 1, none⟩ = some (.slice B (wl x) d) ∧ w'.cell? ⟨w.heap.size, 2, none⟩ = some (.slice B' (wl y) d'))
        (first
          | exact HL.out _ hBs
          | exact HL.out _ hBc2
          | exact HL.out _ hBc3
          | exact HL.out _ hBc4
          | exact HL.out _ hBc5)
        (first
          | (go_at_call 221; (with_reducible refine (HU1.out _ (bel_step HB0.out.1 hBs)).mono ?_); rintro e w2 ⟨v2, rfl, hO2, hB2⟩; obtain ⟨X2, c2, rfl, hX2⟩ := hO2.wl0; have hBc2 := bel_step hBs hB2)
          | (go_at_call 220; (with_reducible refine (HC1.out _ _ _ hX2 (bel_step HB0.out.1 hBc2)).mono ?_); rintro e w3 ⟨rfl, hD3⟩; have hBc3 := bel_step hBc2 (hD3.below _))
          | (go_at_call 221; (with_reducible refine (HU2.out _ (bel_step HB0.out.1 hBc3)).mono ?_); rintro e w4 ⟨v4, rfl, hO4, hB4⟩; obtain ⟨X4, c4, rfl, hX4⟩ := hO4.wl0; have hBc4 := bel_step hBc3 hB4)
          | (go_at_call 220; (with_reducible refine (HC2.out _ _ _ hX4 (bel_step HB0.out.1 hBc4)).mono ?_); rintro e w5 ⟨rfl, hD5⟩; have hBc5 := bel_step hBc4 (hD5.below _)))) | fail "no way")
      go_wp2_with fail
      go_ret
      exact ⟨ret_bool HE2.out.symm, bel_step HB0.out.1 hBc5⟩
theorem ref16_near {v : Value} {r : Rat} (w : World) (h : RtR w v r) (hf : fits r) :
    Calls Tryz.prog 132 #[v] w fun e w' => e = .returned (.bool (nrB r)) ∧ Below w.heap.size w w' := by
  obtain ⟨B, d, B', d', rfl, h1, h2⟩ := h
  refine ref16_near_core (H := hiN) (k1 := cmpN (rnum r * hiN) r.den) (k2 := cmpN (rnum r) (r.den * hiN)) w (Lib.hid fun h0 => nrB_ref h0) (Lib.hid (fun h0 => by unfold nrB nrK; rw [decide_eq_true h0]; rfl)) (Lib.hid fun w' hb => ?_) (Lib.hid fun w' hb => ?_) (Lib.hid fun w' X cx hX hb => ?_) (Lib.hid fun w' X cx hX hb => ?_)
  · rw [hiN_pow]
    exact ref01_Up B d (rnum r) 500 w' (h1.below hb) (by have := hf.1; omega) (by omega)
  · rw [hiN_pow]
    exact ref01_Up B' d' r.den 500 w' (h2.below hb) (by have := hf.2; omega) (by omega)
  · have := ref01_Compare X B' (wl (rnum r * hiN)) cx (wl r.den) d' _ _ w' hX (h2.below hb)
    simp only [val_wds] at this
    exact this
  · have := ref01_Compare B X (wl (rnum r)) d (wl (r.den * hiN)) cx _ _ w' (h1.below hb) hX
    simp only [val_wds] at this
    exact this
end Go.Proofs.YtcbkijeonilcjaaGreat
