/- real.Nearest. -/
import Derived.Test.YtcbkijeonilcjaaGreatHC29
namespace Go.Proofs.YtcbkijeonilcjaaGreat
open Go.RowKit Ieee

theorem xor_sign {X : Nat} (h : X < 9223372036854775808) : X ^^^ 2 ^ 63 = 9223372036854775808 + X := by
  have e : (9223372036854775808 + X : Nat) = 2 ^ 63 ||| X := by
    have h1 := Nat.shiftLeft_add_eq_or_of_lt (i := 63) (b := X) (by rw [show (2 : Nat) ^ 63 = 9223372036854775808 from by decide]; exact h) 1
    rw [Nat.shiftLeft_eq, Nat.one_mul, show (2 : Nat) ^ 63 = 9223372036854775808 from by decide] at h1
    rw [show (2 : Nat) ^ 63 = 9223372036854775808 from by decide]
    exact h1
  rw [e]
  apply Nat.eq_of_testBit_eq
  intro i
  rw [Nat.testBit_xor, Nat.testBit_or, Nat.testBit_two_pow]
  by_cases hi : 63 = i
  · subst hi
    rw [Nat.testBit_lt_two_pow (by rw [show (2 : Nat) ^ 63 = 9223372036854775808 from by decide]; exact h)]; rfl
  · simp [hi]
theorem run_neg {P : Program} {X : Nat} (h : X < 9223372036854775808) (w : World) : (Op.unary .neg (.float .f64 X)).run P w = .ok (.float .f64 (9223372036854775808 + X)) w := by
  rw [← xor_sign h]; rfl
theorem float_nat (m : Nat) : floatOfInt .f64 ((m : Nat) : Int) = double.nearest false m 0 := by
  show double.write (.number (decide ((m : Int) < 0)) (m : Int).natAbs 0) = _
  rw [decide_eq_false (by omega), Int.natAbs_natCast]
  rfl
theorem wl_pow2 (n : Nat) : wl (2 ^ n) ≤ n / 32 + 1 := by
  refine wl_le.2 ?_
  rw [show (4294967296 : Nat) = 2 ^ 32 from by decide, ← Nat.pow_mul]
  exact Nat.pow_lt_pow_right (by decide) (by omega)
theorem log_bd {m : Nat} {k : Int} (hm : m ≤ 9007199254740992) (hk : k ≤ 900) : k + m.log2 ≤ 1022 := by
  by_cases h0 : m = 0
  · rw [h0, show Nat.log2 0 = 0 from by decide]; omega
  · rcases log2_53 h0 hm with h | h
    · omega
    · rw [h, show Nat.log2 9007199254740992 = 53 from by decide]; omega
/-- the nearest word of a whole number of 53 bits at a place that is not too high -/
theorem nearest_facts {m : Nat} {k : Int} (hm : m ≤ 9007199254740992) (hk : -1074 ≤ k) (hk2 : k ≤ 900) :
    (∃ a, Num (double.nearest false m k) false a) ∧ double.nearest false m k < 9218868437227405312 ∧ (FloatKind.f64.format.order (double.nearest false m k) 0 != some Ordering.eq) = decide (double.nearest false m k ≠ 0) := by
  by_cases h0 : m = 0
  · subst h0
    rw [nearest_zero]
    refine ⟨⟨0, num_zero⟩, by decide, ?_⟩
    show (double.order 0 0 != some Ordering.eq) = _
    rw [order_self num_zero]; rfl
  · have hl := log_bd hm hk2
    have hb : (m : Rat) * p2 k ≤ p2 1023 := by
      have h1 := (mag_log h0 k).2
      have h2 : p2 (k + (m.log2 : Int) + 1) ≤ p2 1023 := p2_mono (by omega)
      grind
    have hN := exact_num false k 1023 h0 hm hk (by decide) (by decide) hb
    obtain ⟨hr, hs, _, _⟩ := num_rung hN
    generalize double.nearest false m k = X at *
    have hlt : X < 9223372036854775808 := by
      by_cases c : 9223372036854775808 ≤ X
      · rw [decide_eq_true c] at hs; exact absurd hs (by decide)
      · omega
    refine ⟨⟨_, hN⟩, by omega, ?_⟩
    have hne : X ≠ 0 := by
      intro hz
      rw [hz] at hN
      obtain ⟨_, n, e, hr0, _, hv⟩ := hN
      have := read_word false (r := 0) (by decide)
      rw [word_false, if_pos (by decide), hr0] at this
      injection this with q1 q2 q3
      rw [q2, show ((0 : Nat) : Rat) = 0 from rfl, Rat.zero_mul] at hv
      exact rat_pos_of h0 k hv.symm
    rw [decide_eq_true hne]
    show (double.order X 0 != some Ordering.eq) = true
    rw [order_num hN num_zero]
    show (some (if (m : Rat) * p2 k < 0 then Ordering.lt else if (m : Rat) * p2 k = 0 then Ordering.eq else Ordering.gt) != some Ordering.eq) = true
    by_cases c : (m : Rat) * p2 k < 0
    · rw [if_pos c]; rfl
    · rw [if_neg c, if_neg (rat_pos_of h0 k)]; rfl
set_option maxRecDepth 100000 in
set_option maxHeartbeats 2000000 in
theorem real_Nearest {v : Value} {r : Rat} (w : World) (h : RtR w v r) (hf : fits r) (he : rnum r = 0 ∨ fexp (rnum r) r.den ≤ 900) :
    Calls Tryz.prog 111 #[v] w fun e w' => ∃ F, flo (rneg r) (rnum r) r.den = some F ∧ e = .returned (.tuple #[.float .f64 F, .int .i64 0]) ∧ Below w.heap.size w w' := by
  obtain ⟨A, c, A', c', rfl, h1, h2⟩ := h
  have hy0 : 0 < r.den := r.den_pos
  have hchk := chkR_rat hf
  obtain ⟨hf1, hf2⟩ := hf
  generalize rnum r = x at *
  generalize r.den = y at *
  generalize rneg r = g at *
  obtain ⟨W0, hW0⟩ : ∃ W, w.alloc (.cells #[.bool g, .slice A (wl x) c, .slice A' (wl y) c'] 24) = W := ⟨_, rfl⟩
  have hb0 : Below w.heap.size w W0 := by rw [← hW0]; exact (Below.refl _ _).alloc (Nat.le_refl _) _
  have hk : W0.heap[w.heap.size]? = some (.cells #[.bool g, .slice A (wl x) c, .slice A' (wl y) c'] 24) := by rw [← hW0]; exact heap_alloc_new w _
  have HC := Lib.hid (ratio_Check g A A' (wl x) (wl y) c c' (wds x) (wds y) W0 (h1.below hb0) (h2.below hb0))
  have HCK := Lib.hid hchk
  have HA := Lib.hid (And.intro hb0 (And.intro hk (And.intro (h1.below hb0) (h2.below hb0))))
  obtain ⟨⟨z0, z1, z2⟩⟩ := And.intro (cell3 hk) trivial
  clear hb0 hk h1 h2 hchk
  go_enter Tryz.func111, Tryz.ntmps111
  go_wp2_with fail
  have HW0 := Lib.hid hW0
  clear hW0
  refine HC.out.mono ?_
  rintro e w1 ⟨rfl, hB1⟩
  rw [HCK.out]
  have HB1 := Lib.hid (And.intro (bel_step HA.out.1 hB1) (And.intro (blk_below hB1 HA.out.2.1) (And.intro (HA.out.2.2.1.below hB1) (HA.out.2.2.2.below hB1))))
  clear z0 z1 z2 hB1 HA HC HCK
  obtain ⟨z0, z1, z2⟩ := cell3 HB1.out.2.1
  by_cases hx0 : x = 0
  · have hwx : wl x = 0 := wl_eq_zero.2 hx0
    have HF : Hid (flo g x y = some 0) := by show _ = _; unfold flo; rw [if_pos hx0]
    rw [hwx] at z1
    have hX := Lib.hid hx0
    clear hx0
    go_wp2_with fail
    go_ret2
    exact ⟨_, HF.out, rfl, HB1.out.1⟩
  · have hwx : 0 < wl x := by have := wl_eq_zero (x := x); omega
    have he' : fexp x y ≤ 900 := by omega
    have e0 : ((wl x : Int) == 0) = false := by simp; omega
    have hwl : w.heap.size < w1.heap.size := heap_lt HB1.out.2.1
    go_wp2_with fail
    refine (real_power w1 HB1.out.2.2.1 HB1.out.2.2.2 hf1 hf2).mono ?_
    rintro e w2 ⟨rfl, hB2⟩
    have HB2 := Lib.hid (And.intro (bel_step HB1.out.1 hB2) (And.intro (blk_below hB2 HB1.out.2.1) (And.intro (HB1.out.2.2.1.below hB2) (HB1.out.2.2.2.below hB2))))
    clear z0 z1 z2 hB2 HB1
    obtain ⟨z0, z1, z2⟩ := cell3 HB2.out.2.1
    by_cases hlow : fexp x y < -1075
    · have HF : Hid (flo g x y = some 0) := by show _ = _; unfold flo; rw [if_neg hx0, if_neg (by omega), if_pos hlow]
      have e5 : (1023 < fexp x y) = False := by simp only [eq_iff_iff, iff_false]; omega
      have e6 : (fexp x y < -1075) = True := by simp only [eq_iff_iff, iff_true]; exact hlow
      clear he' he hlow hx0
      generalize fexp x y = ee at *
      go_wp2_with fail
      go_ret2
      exact ⟨_, HF.out, rfl, HB2.out.1⟩
    · have hp : max (fexp x y - 52) (-1074) = fpl x y := rfl
      have e5 : (1023 < fexp x y) = False := by simp only [eq_iff_iff, iff_false]; omega
      have e6 : (fexp x y < -1075) = False := by simp only [eq_iff_iff, iff_false]; exact hlow
      have hpb := fpl_bd (x := x) (y := y) (by omega)
      have hfm := fman_le (x := x) (y := y) (by omega) hy0
      have HFM : Hid (fman x y = halfE (x * 2 ^ (-fpl x y).toNat) (y * 2 ^ (fpl x y).toNat)) := rfl
      have HFL : Hid (flo g x y = if double.nearest false (fman x y) (fpl x y) = 9218868437227405312 then none else if g = true ∧ double.nearest false (fman x y) (fpl x y) ≠ 0 then some (9223372036854775808 + double.nearest false (fman x y) (fpl x y)) else some (double.nearest false (fman x y) (fpl x y))) := by
        show _ = _; unfold flo; rw [if_neg hx0, if_neg (by omega), if_neg hlow]
      have hplow : fpl x y ≤ 900 := by unfold fpl; omega
      have hel : -1075 ≤ fexp x y := by omega
      have heu : fexp x y ≤ 900 := he'
      clear hlow hx0 he he'
      generalize hkk : fpl x y = kk at *
      generalize fman x y = mm at *
      generalize fexp x y = ee at *
      clear hkk
      have bx := blen_wl x
      have bY := blen_wl y
      go_upto_region 12 with fail
      go_quiet (fail)
      obtain ⟨W3, hW3⟩ : ∃ W3, w2.drewN nq = W3 := ⟨_, rfl⟩
      rw [hW3]
      have hB3 : Below w2.heap.size w2 W3 := by rw [← hW3]; exact below_drewN (Below.refl _ _) _
      have HB3 := Lib.hid (And.intro (bel_step HB2.out.1 hB3) (And.intro (blk_below hB3 HB2.out.2.1) (And.intro (HB2.out.2.2.1.below hB3) (HB2.out.2.2.2.below hB3))))
      clear hB3 hW3 z0 z1 z2 HB2
      go_upto_if 44 with fail
      go_cut [7, 8] from 43 to 51 (fun nv dv wx => ∃ B d B' d', nv = .slice B (wl (x * 2 ^ (-kk).toNat)) d ∧ dv = .slice B' (wl (y * 2 ^ kk.toNat)) d' ∧ Rd wx B (wl (x * 2 ^ (-kk).toNat)) d (wds (x * 2 ^ (-kk).toNat)) ∧ Rd wx B' (wl (y * 2 ^ kk.toNat)) d' (wds (y * 2 ^ kk.toNat)) ∧ Below W3.heap.size W3 wx)
      case first =>
        by_cases hk0 : 0 ≤ kk
        · obtain ⟨n, rfl⟩ : ∃ n : Nat, kk = n := ⟨kk.toNat, by omega⟩
          have HS := Lib.hid (real_shifted W3 HB3.out.2.2.2 (by omega) (n := n) (by omega) (by omega))
          clear hp hfm HFM HFL
          go_wp2_with fail
          refine HS.out.mono ?_
          rintro e w3 ⟨v, rfl, hO, hB⟩
          obtain ⟨A3, c3, rfl, hR3⟩ := hO.wl0
          go_wp2_with fail
          go_meet
          case rel =>
            rw [Int.toNat_natCast, show (-(n : Int)).toNat = 0 by omega, Nat.pow_zero, Nat.mul_one]
            exact ⟨_, _, _, _, rfl, rfl, HB3.out.2.2.1.below hB, hR3, hB⟩
        · obtain ⟨n, rfl⟩ : ∃ n : Nat, kk = -(n : Int) := ⟨(-kk).toNat, by omega⟩
          have HS := Lib.hid (real_shifted W3 HB3.out.2.2.1 (by omega) (n := n) (by omega) (by omega))
          clear hp hfm HFM HFL
          go_wp2_with fail
          refine HS.out.mono ?_
          rintro e w3 ⟨v, rfl, hO, hB⟩
          obtain ⟨A3, c3, rfl, hR3⟩ := hO.wl0
          go_wp2_with fail
          go_meet
          case rel =>
            rw [Int.neg_neg, Int.toNat_natCast, show (-(n : Int)).toNat = 0 by omega, Nat.pow_zero, Nat.mul_one]
            exact ⟨_, _, _, _, rfl, rfl, hR3, HB3.out.2.2.2.below hB, hB⟩
      case rest =>
        obtain ⟨B, d, B', d', rfl, rfl, hRn, hRd, hB4⟩ := hcut
        rename World => w4
        have hN : wl (x * 2 ^ (-kk).toNat) ≤ 8192 := by have := wl_mul x (2 ^ (-kk).toNat); have := wl_pow2 (-kk).toNat; omega
        have hD : wl (y * 2 ^ kk.toNat) ≤ 8000 := by have := wl_mul y (2 ^ kk.toNat); have := wl_pow2 kk.toNat; omega
        have hD0 : 0 < y * 2 ^ kk.toNat := Nat.mul_pos hy0 (Nat.pow_pos (by decide))
        generalize x * 2 ^ (-kk).toNat = N at *
        generalize y * 2 ^ kk.toNat = D at *
        have HDM := Lib.hid (nat_DivMod B B' d d' N D w4 hRn hRd hN (by omega) hD0)
        have hB4' := bel_step HB3.out.1 hB4
        have HB4 := Lib.hid (And.intro hB4' (And.intro (blk_below hB4 HB3.out.2.1) hRd))
        clear hRn hRd hB4 hB4' HB3 hp
        go_wp2_with fail
        refine HDM.out.mono ?_
        rintro e w5 ⟨qv, rv, rfl, hq, hr, hB5⟩
        obtain ⟨Q, cq, rfl, hRq⟩ := hq.wl0
        obtain ⟨R, cr, rfl, hRr⟩ := hr.wl0
        have HB5 := Lib.hid (And.intro (bel_step HB4.out.1 hB5) (And.intro (blk_below hB5 HB4.out.2.1) (And.intro (HB4.out.2.2.below hB5) (And.intro hRq hRr))))
        clear hq hr hB5 hRq hRr HB4 HDM
        have hFM := HFM.out
        unfold halfE at hFM
        have hRD : N % D < D := Nat.mod_lt _ hD0
        clear HFM hN hD0
        generalize N / D = q at *
        generalize N % D = rr at *
        have hq64 : q ≤ 9007199254740992 := by omega
        have HFM := Lib.hid hFM
        clear hFM
        obtain ⟨hX1, hX2, hX3⟩ := nearest_facts hfm hpb.1 (by omega : kk ≤ 900)
        have hLd := fun w' => math_Ldexp (m := mm) (k := kk) w' hfm hpb.1 (log_bd hfm (by omega))
        have hIs := fun w' => math_IsInf hX1.choose_spec w'
        go_wp2_with fail
        refine (nat_Uint64 Q (wl (q)) cq (q) (wds (q)) w5 HB5.out.2.2.2.1 (val_wds _) (by omega)).mono ?_
        rintro e w6 ⟨rfl, hd6⟩
        have HB6 := Lib.hid (And.intro (HB5.out.1.trans (hd6.below _)) (And.intro (blk_below (hd6.below _) HB5.out.2.1) (And.intro (HB5.out.2.2.1.below (hd6.below _)) (HB5.out.2.2.2.2.below (hd6.below _)))))
        clear hd6 HB5
        have hwr : wl (rr) ≤ 8000 := Nat.le_trans (wl_mono (Nat.le_of_lt hRD)) hD
        have hbr := blen_wl (rr)
        go_wp2_with fail
        refine (real_shifted w6 HB6.out.2.2.2 (by omega) (n := 1) (by omega) (by omega)).mono ?_
        rintro e w7 ⟨sv, rfl, hO7, hB7⟩
        obtain ⟨A7, c7, rfl, hR7⟩ := hO7.wl0
        have HC7 := Lib.hid (nat_Compare A7 B' (wl (rr * 2 ^ 1)) c7 (wl D) d' (rr * 2 ^ 1) D (wds (rr * 2 ^ 1)) (wds D) w7 hR7 (HB6.out.2.2.1.below hB7) (val_wds _) (val_wds _))
        have HB7 := Lib.hid (And.intro (bel_step HB6.out.1 hB7) (blk_below hB7 HB6.out.2.1))
        clear hO7 hB7 hR7 HB6
        go_wp2_with fail
        refine HC7.out.mono ?_
        rintro e w8 ⟨rfl, hd8⟩
        have HB8 := Lib.hid (And.intro (HB7.out.1.trans (hd8.below _)) (blk_below (hd8.below _) HB7.out.2))
        clear hd8 HB7 HC7
        have hFM := HFM.out
        have hcv : cmpN (rr * 2 ^ 1) D = cmpN (2 * rr) D := by congr 1; omega
        rw [hcv]
        clear hcv HFM hRD hwr hbr hD
        have HIN := Lib.hid (And.intro hX1 (And.intro hX2 (And.intro hX3 (And.intro hLd hIs))))
        clear hX1 hX2 hX3 hLd hIs
        obtain ⟨z0, z1, z2⟩ := cell3 HB8.out.2
        have hb1 : bits .and .u64 ((q : Nat) : Int) 1 = ((q % 2 : Nat) : Int) := by
          refine (u64_and_nat q 1 (by omega) (by decide)).trans ?_
          rw [Nat.and_one_is_mod]
        rcases Nat.lt_trichotomy (2 * rr) D with hlt | heq | hgt
        · have hm : mm = q := by rw [hFM, if_neg (by omega)]; rfl
          rw [cmpN_lt hlt]
          clear hlt hFM hb1
          subst hm
          have hfo : floatOfInt .f64 (mm : Int) = double.nearest false mm 0 := float_nat mm
          obtain ⟨X, hX⟩ : ∃ X, double.nearest false mm kk = X := ⟨_, rfl⟩
          obtain ⟨F0, hF0⟩ : ∃ X, double.nearest false mm 0 = X := ⟨_, rfl⟩
          rw [hX, hF0] at HIN
          rw [hX] at HFL
          rw [hF0] at hfo
          clear hF0
          have hx2 := HIN.out.2.1
          have hx3 := HIN.out.2.2.1
          have hfl := HFL.out
          rw [if_neg (by omega)] at hfl
          by_cases hX0 : X = 0
          · have e7 : (FloatKind.f64.format.order X 0 != some Ordering.eq) = false := by rw [hx3]; simp [hX0]
            have HE : Hid (flo g x y = some X) := by show _ = _; rw [hfl, if_neg (by simp [hX0])]
            clear hx3 hfl hX0 hX
            cases g <;> (
              go_wp2_with (first | (go_at_call 197; refine (HIN.out.2.2.2.1 _).mono ?_; rintro e w' ⟨rfl, rfl⟩) | (go_at_call 146; refine (HIN.out.2.2.2.2 _).mono ?_; rintro e w' ⟨rfl, rfl⟩))
              go_ret2
              exact ⟨_, HE.out, rfl, HB8.out.1⟩)
          · have e7 : (FloatKind.f64.format.order X 0 != some Ordering.eq) = true := by rw [hx3]; simp [hX0]
            cases g
            · have HE : Hid (flo false x y = some X) := by show _ = _; rw [hfl, if_neg (by simp)]
              clear hx3 hfl hX0 hX
              go_wp2_with (first | (go_at_call 197; refine (HIN.out.2.2.2.1 _).mono ?_; rintro e w' ⟨rfl, rfl⟩) | (go_at_call 146; refine (HIN.out.2.2.2.2 _).mono ?_; rintro e w' ⟨rfl, rfl⟩))
              go_ret2
              exact ⟨_, HE.out, rfl, HB8.out.1⟩
            · have HE : Hid (flo true x y = some (9223372036854775808 + X)) := by show _ = _; rw [hfl, if_pos ⟨rfl, hX0⟩]
              have hneg := fun w => run_neg (P := Tryz.prog) (X := X) (by omega) w
              clear hx3 hfl hX0 hX
              go_wp2_with (first | (go_at_call 197; refine (HIN.out.2.2.2.1 _).mono ?_; rintro e w' ⟨rfl, rfl⟩) | (go_at_call 146; refine (HIN.out.2.2.2.2 _).mono ?_; rintro e w' ⟨rfl, rfl⟩))
              go_ret2
              exact ⟨_, HE.out, rfl, HB8.out.1⟩
        · have hcv : cmpN (2 * rr) D = 0 := by rw [heq, cmpN_eq]
          rw [hcv]
          by_cases hodd : q % 2 = 1
          · have hm : mm = q + 1 := by rw [hFM, if_pos (.inr ⟨heq, hodd⟩)]
            rw [hodd] at hb1
            clear heq hcv hodd hFM
            subst hm
            have hfo : floatOfInt .f64 ((q : Int) + 1) = double.nearest false (q + 1) 0 := float_nat (q + 1)
            obtain ⟨X, hX⟩ : ∃ X, double.nearest false (q + 1) kk = X := ⟨_, rfl⟩
            obtain ⟨F0, hF0⟩ : ∃ X, double.nearest false (q + 1) 0 = X := ⟨_, rfl⟩
            rw [hX, hF0] at HIN
            rw [hX] at HFL
            rw [hF0] at hfo
            clear hF0
            have hx2 := HIN.out.2.1
            have hx3 := HIN.out.2.2.1
            have hfl := HFL.out
            rw [if_neg (by omega)] at hfl
            by_cases hX0 : X = 0
            · have e7 : (FloatKind.f64.format.order X 0 != some Ordering.eq) = false := by rw [hx3]; simp [hX0]
              have HE : Hid (flo g x y = some X) := by show _ = _; rw [hfl, if_neg (by simp [hX0])]
              clear hx3 hfl hX0 hX
              cases g <;> (
                go_wp2_with (first | (go_at_call 197; refine (HIN.out.2.2.2.1 _).mono ?_; rintro e w' ⟨rfl, rfl⟩) | (go_at_call 146; refine (HIN.out.2.2.2.2 _).mono ?_; rintro e w' ⟨rfl, rfl⟩))
                go_ret2
                exact ⟨_, HE.out, rfl, HB8.out.1⟩)
            · have e7 : (FloatKind.f64.format.order X 0 != some Ordering.eq) = true := by rw [hx3]; simp [hX0]
              cases g
              · have HE : Hid (flo false x y = some X) := by show _ = _; rw [hfl, if_neg (by simp)]
                clear hx3 hfl hX0 hX
                go_wp2_with (first | (go_at_call 197; refine (HIN.out.2.2.2.1 _).mono ?_; rintro e w' ⟨rfl, rfl⟩) | (go_at_call 146; refine (HIN.out.2.2.2.2 _).mono ?_; rintro e w' ⟨rfl, rfl⟩))
                go_ret2
                exact ⟨_, HE.out, rfl, HB8.out.1⟩
              · have HE : Hid (flo true x y = some (9223372036854775808 + X)) := by show _ = _; rw [hfl, if_pos ⟨rfl, hX0⟩]
                have hneg := fun w => run_neg (P := Tryz.prog) (X := X) (by omega) w
                clear hx3 hfl hX0 hX
                go_wp2_with (first | (go_at_call 197; refine (HIN.out.2.2.2.1 _).mono ?_; rintro e w' ⟨rfl, rfl⟩) | (go_at_call 146; refine (HIN.out.2.2.2.2 _).mono ?_; rintro e w' ⟨rfl, rfl⟩))
                go_ret2
                exact ⟨_, HE.out, rfl, HB8.out.1⟩
          · have hm : mm = q := by rw [hFM, if_neg (by omega)]; rfl
            have hev : q % 2 = 0 := by omega
            rw [hev] at hb1
            clear heq hcv hodd hev hFM
            subst hm
            have hfo : floatOfInt .f64 (mm : Int) = double.nearest false mm 0 := float_nat mm
            obtain ⟨X, hX⟩ : ∃ X, double.nearest false mm kk = X := ⟨_, rfl⟩
            obtain ⟨F0, hF0⟩ : ∃ X, double.nearest false mm 0 = X := ⟨_, rfl⟩
            rw [hX, hF0] at HIN
            rw [hX] at HFL
            rw [hF0] at hfo
            clear hF0
            have hx2 := HIN.out.2.1
            have hx3 := HIN.out.2.2.1
            have hfl := HFL.out
            rw [if_neg (by omega)] at hfl
            by_cases hX0 : X = 0
            · have e7 : (FloatKind.f64.format.order X 0 != some Ordering.eq) = false := by rw [hx3]; simp [hX0]
              have HE : Hid (flo g x y = some X) := by show _ = _; rw [hfl, if_neg (by simp [hX0])]
              clear hx3 hfl hX0 hX
              cases g <;> (
                go_wp2_with (first | (go_at_call 197; refine (HIN.out.2.2.2.1 _).mono ?_; rintro e w' ⟨rfl, rfl⟩) | (go_at_call 146; refine (HIN.out.2.2.2.2 _).mono ?_; rintro e w' ⟨rfl, rfl⟩))
                go_ret2
                exact ⟨_, HE.out, rfl, HB8.out.1⟩)
            · have e7 : (FloatKind.f64.format.order X 0 != some Ordering.eq) = true := by rw [hx3]; simp [hX0]
              cases g
              · have HE : Hid (flo false x y = some X) := by show _ = _; rw [hfl, if_neg (by simp)]
                clear hx3 hfl hX0 hX
                go_wp2_with (first | (go_at_call 197; refine (HIN.out.2.2.2.1 _).mono ?_; rintro e w' ⟨rfl, rfl⟩) | (go_at_call 146; refine (HIN.out.2.2.2.2 _).mono ?_; rintro e w' ⟨rfl, rfl⟩))
                go_ret2
                exact ⟨_, HE.out, rfl, HB8.out.1⟩
              · have HE : Hid (flo true x y = some (9223372036854775808 + X)) := by show _ = _; rw [hfl, if_pos ⟨rfl, hX0⟩]
                have hneg := fun w => run_neg (P := Tryz.prog) (X := X) (by omega) w
                clear hx3 hfl hX0 hX
                go_wp2_with (first | (go_at_call 197; refine (HIN.out.2.2.2.1 _).mono ?_; rintro e w' ⟨rfl, rfl⟩) | (go_at_call 146; refine (HIN.out.2.2.2.2 _).mono ?_; rintro e w' ⟨rfl, rfl⟩))
                go_ret2
                exact ⟨_, HE.out, rfl, HB8.out.1⟩
        · have hm : mm = q + 1 := by rw [hFM, if_pos (.inl hgt)]
          rw [cmpN_gt hgt]
          clear hgt hFM hb1
          subst hm
          have hfo : floatOfInt .f64 ((q : Int) + 1) = double.nearest false (q + 1) 0 := float_nat (q + 1)
          obtain ⟨X, hX⟩ : ∃ X, double.nearest false (q + 1) kk = X := ⟨_, rfl⟩
          obtain ⟨F0, hF0⟩ : ∃ X, double.nearest false (q + 1) 0 = X := ⟨_, rfl⟩
          rw [hX, hF0] at HIN
          rw [hX] at HFL
          rw [hF0] at hfo
          clear hF0
          have hx2 := HIN.out.2.1
          have hx3 := HIN.out.2.2.1
          have hfl := HFL.out
          rw [if_neg (by omega)] at hfl
          by_cases hX0 : X = 0
          · have e7 : (FloatKind.f64.format.order X 0 != some Ordering.eq) = false := by rw [hx3]; simp [hX0]
            have HE : Hid (flo g x y = some X) := by show _ = _; rw [hfl, if_neg (by simp [hX0])]
            clear hx3 hfl hX0 hX
            cases g <;> (
              go_wp2_with (first | (go_at_call 197; refine (HIN.out.2.2.2.1 _).mono ?_; rintro e w' ⟨rfl, rfl⟩) | (go_at_call 146; refine (HIN.out.2.2.2.2 _).mono ?_; rintro e w' ⟨rfl, rfl⟩))
              go_ret2
              exact ⟨_, HE.out, rfl, HB8.out.1⟩)
          · have e7 : (FloatKind.f64.format.order X 0 != some Ordering.eq) = true := by rw [hx3]; simp [hX0]
            cases g
            · have HE : Hid (flo false x y = some X) := by show _ = _; rw [hfl, if_neg (by simp)]
              clear hx3 hfl hX0 hX
              go_wp2_with (first | (go_at_call 197; refine (HIN.out.2.2.2.1 _).mono ?_; rintro e w' ⟨rfl, rfl⟩) | (go_at_call 146; refine (HIN.out.2.2.2.2 _).mono ?_; rintro e w' ⟨rfl, rfl⟩))
              go_ret2
              exact ⟨_, HE.out, rfl, HB8.out.1⟩
            · have HE : Hid (flo true x y = some (9223372036854775808 + X)) := by show _ = _; rw [hfl, if_pos ⟨rfl, hX0⟩]
              have hneg := fun w => run_neg (P := Tryz.prog) (X := X) (by omega) w
              clear hx3 hfl hX0 hX
              go_wp2_with (first | (go_at_call 197; refine (HIN.out.2.2.2.1 _).mono ?_; rintro e w' ⟨rfl, rfl⟩) | (go_at_call 146; refine (HIN.out.2.2.2.2 _).mono ?_; rintro e w' ⟨rfl, rfl⟩))
              go_ret2
              exact ⟨_, HE.out, rfl, HB8.out.1⟩
end Go.Proofs.YtcbkijeonilcjaaGreat
