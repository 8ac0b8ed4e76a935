/- The reference of layer 6: shifted, scaled, even. -/
import Derived.Test.YtcbkijeonilcjaaGreatHC20
import Derived.Test.YtcbkijeonilcjaaGreatHC30
import Derived.Test.YtcbkijeonilcjaaGreatHC36
namespace Go.Proofs.YtcbkijeonilcjaaGreat
open Go.RowKit Ieee

set_option maxRecDepth 100000 in
theorem ref06_shifted {A : Option Addr} {c x n : Nat} (w : World) (h : Rd w A (wl x) c (wds x)) (hx : wl x ≤ 8192) (hn : n ≤ 262144) (hs : blen x + n ≤ 262144) :
    Calls Tryz.prog 318 #[.slice A (wl x) c, .int .i64 n] w fun e w' => ∃ v, e = .returned v ∧ Own 116 w' w.heap.size v (wds (x * 2 ^ n)) ∧ Below w.heap.size w w' := by
  have HH := Lib.hid (ref01_Shift A c x n w h hx hn hs)
  clear h hx hn hs
  go_enter Tryz.func318, Tryz.ntmps318
  go_wp2_with (go_at_call 337; refine HH.out.mono ?_; rintro e w1 ⟨v, rfl, hO, hB⟩)
  go_ret
  exact ⟨_, rfl, hO, hB⟩
set_option maxRecDepth 100000 in
theorem ref06_scaled {A A' : Option Addr} {c c' x y : Nat} {k : Int} (w : World) (h : Rd w A (wl x) c (wds x)) (h' : Rd w A' (wl y) c' (wds y)) (hx : wl x ≤ 2048) (hy : wl y ≤ 2048) (hk1 : -100000 ≤ k) (hk2 : k ≤ 100000) :
    Calls Tryz.prog 273 #[.slice A (wl x) c, .slice A' (wl y) c', .int .i64 k] w fun e w' => ∃ B d B' d', e = .returned (.tuple #[.slice B (wl (x * 2 ^ (-k).toNat)) d, .slice B' (wl (y * 2 ^ k.toNat)) d']) ∧ Rd w' B (wl (x * 2 ^ (-k).toNat)) d (wds (x * 2 ^ (-k).toNat)) ∧ Rd w' B' (wl (y * 2 ^ k.toNat)) d' (wds (y * 2 ^ k.toNat)) ∧ Below w.heap.size w w' := by
  have bx := blen_wl x
  have bY := blen_wl y
  by_cases hk0 : 0 ≤ k
  · obtain ⟨n, rfl⟩ : ∃ n : Nat, k = n := ⟨k.toNat, by omega⟩
    have HS := Lib.hid (ref06_shifted w h' (by omega) (n := n) (by omega) (by omega))
    rw [Int.toNat_natCast, show (-(n : Int)).toNat = 0 by omega, Nat.pow_zero, Nat.mul_one]
    have HR := Lib.hid h
    clear h h'
    go_enter Tryz.func273, Tryz.ntmps273
    go_wp2_with fail
    refine HS.out.mono ?_
    rintro e w3 ⟨v, rfl, hO, hB⟩
    obtain ⟨A3, c3, rfl, hR3⟩ := hO.wl0
    go_wp2_with fail
    go_ret2
    exact ⟨_, _, _, _, rfl, HR.out.below hB, hR3, hB⟩
  · obtain ⟨n, rfl⟩ : ∃ n : Nat, k = -(n : Int) := ⟨(-k).toNat, by omega⟩
    have HS := Lib.hid (ref06_shifted w h (by omega) (n := n) (by omega) (by omega))
    rw [Int.neg_neg, Int.toNat_natCast, show (-(n : Int)).toNat = 0 by omega, Nat.pow_zero, Nat.mul_one]
    have HR := Lib.hid h'
    clear h h'
    go_enter Tryz.func273, Tryz.ntmps273
    go_wp2_with fail
    refine HS.out.mono ?_
    rintro e w3 ⟨v, rfl, hO, hB⟩
    obtain ⟨A3, c3, rfl, hR3⟩ := hO.wl0
    go_wp2_with fail
    go_ret2
    exact ⟨_, _, _, _, rfl, hR3, HR.out.below hB, hB⟩
set_option maxRecDepth 100000 in
set_option maxHeartbeats 1000000 in
theorem ref06_even {A A' : Option Addr} {c c' N D : Nat} (w : World) (h : Rd w A (wl N) c (wds N)) (h' : Rd w A' (wl D) c' (wds D)) (hN : wl N ≤ 8000) (hD : wl D ≤ 8000) (hD0 : 0 < D) (hm : halfE N D ≤ 9007199254740992) :
    Calls Tryz.prog 274 #[.slice A (wl N) c, .slice A' (wl D) c'] w fun e w' => e = .returned (.int .u64 (halfE N D)) ∧ Below w.heap.size w w' := by
  have HDM := Lib.hid (ref01_DivMod A A' c c' N D w h h' (by omega) (by omega) hD0)
  have hRd := Lib.hid h'
  clear h h'
  obtain ⟨mm, hmm⟩ : ∃ mm, halfE N D = mm := ⟨_, rfl⟩
  have hFM := hmm.symm
  unfold halfE at hFM
  rw [hmm] at hm ⊢
  clear hmm
  have hRD : N % D < D := Nat.mod_lt _ hD0
  go_enter Tryz.func274, Tryz.ntmps274
  go_wp2_with fail
  refine HDM.out.mono ?_
  rintro e w5 ⟨qv, rv, rfl, hq, hr, hB5⟩
  obtain ⟨Q, cq, rfl, hRq⟩ := hq.wl0
  obtain ⟨R, cr, rfl, hRr⟩ := hr.wl0
  clear HDM
  generalize N / D = q at *
  generalize N % D = rr at *
  have HB5 := Lib.hid (And.intro hB5 (And.intro (hRd.out.below hB5) (And.intro hRq hRr)))
  have hq64 : q ≤ 9007199254740992 := by omega
  have HFM := Lib.hid hFM
  clear hq hr hB5 hRq hRr hFM hRd
  go_wp2_with fail
  refine (ref01_Uint64 Q (wl q) cq (wds q) w5 HB5.out.2.2.1 (by rw [val_wds]; omega)).mono ?_
  rintro e w6 ⟨rfl, hd6⟩
  rw [val_wds]
  have HB6 := Lib.hid (And.intro (bel_step HB5.out.1 hd6) (And.intro (HB5.out.2.1.below hd6) (HB5.out.2.2.2.below hd6)))
  clear hd6 HB5
  have hwr : wl rr ≤ 8000 := Nat.le_trans (wl_mono (Nat.le_of_lt hRD)) hD
  have hbr := blen_wl rr
  go_wp2_with fail
  refine (ref06_shifted w6 HB6.out.2.2 (by omega) (n := 1) (by omega) (by omega)).mono ?_
  rintro e w7 ⟨sv, rfl, hO7, hB7⟩
  obtain ⟨A7, c7, rfl, hR7⟩ := hO7.wl0
  have HC7 := Lib.hid (ref01_Compare A7 A' (wl (rr * 2 ^ 1)) c7 (wl D) c' (wds (rr * 2 ^ 1)) (wds D) w7 hR7 (HB6.out.2.1.below hB7))
  have HB7 := Lib.hid (bel_step HB6.out.1 hB7)
  clear hO7 hB7 hR7 HB6
  go_wp2_with fail
  refine HC7.out.mono ?_
  rintro e w8 ⟨rfl, hd8⟩
  rw [val_wds, val_wds]
  have HB8 := Lib.hid (HB7.out.trans (hd8.below _))
  clear hd8 HB7 HC7
  have hFM := HFM.out
  have hcv : cmpN (rr * 2 ^ 1) D = cmpN (2 * rr) D := by congr 1; omega
  rw [hcv]
  clear hcv HFM hRD hwr hbr hD hN
  rcases Nat.lt_trichotomy (2 * rr) D with hlt | heq | hgt
  · have hm : mm = q := by rw [hFM, if_neg (by omega)]; rfl
    rw [cmpN_lt hlt]
    clear hlt hFM
    subst hm
    go_wp2_with fail
    go_ret
    exact ⟨rfl, HB8.out⟩
  · have hcv : cmpN (2 * rr) D = 0 := by rw [heq, cmpN_eq]
    rw [hcv]
    by_cases hodd : q % 2 = 1
    · have hm : mm = q + 1 := by rw [hFM, if_pos (.inr ⟨heq, hodd⟩)]
      have hb1 : ((q : Nat) : Int).tmod 2 = 1 := by rw [Int.tmod_eq_emod_of_nonneg (by omega)]; omega
      clear heq hcv hodd hFM
      subst hm
      go_wp2_with fail
      go_ret
      exact ⟨ret_int (by omega), HB8.out⟩
    · have hm : mm = q := by rw [hFM, if_neg (by omega)]; rfl
      have hb1 : ((q : Nat) : Int).tmod 2 = 0 := by rw [Int.tmod_eq_emod_of_nonneg (by omega)]; omega
      clear heq hcv hodd hFM
      subst hm
      go_wp2_with fail
      go_ret
      exact ⟨rfl, HB8.out⟩
  · have hm : mm = q + 1 := by rw [hFM, if_pos (.inl hgt)]
    rw [cmpN_gt hgt]
    clear hgt hFM
    subst hm
    go_wp2_with fail
    go_ret
    exact ⟨ret_int (by omega), HB8.out⟩
end Go.Proofs.YtcbkijeonilcjaaGreat

/- The reference of layer 6: Near. -/
namespace Go.Proofs.YtcbkijeonilcjaaGreat
open Go.RowKit Ieee

theorem halfE_low {x y : Nat} {k : Int} (hx : 0 < x) (hy : 0 < y) (h : fexp x y < -1075) (hk : fpl x y = k) : halfE (x * 2 ^ (-k).toNat) (y * 2 ^ k.toNat) = 0 := by
  obtain ⟨n, hn⟩ : ∃ n : Nat, n = 1074 := ⟨_, rfl⟩
  have hkk : k = -(n : Int) := by rw [← hk]; unfold fpl; omega
  have hf : fexp x y + 1 ≤ -((n + 1 : Nat) : Int) := by omega
  clear hn hk h
  subst hkk
  rw [Int.neg_neg, Int.toNat_natCast, show (-(n : Int)).toNat = 0 by omega, Nat.pow_zero, Nat.mul_one]
  have h1 := (fexp_spec hx hy).2
  have h2 : p2 (fexp x y + 1) ≤ p2 (-((n + 1 : Nat) : Int)) := p2_mono hf
  have h3 : (x : Rat) < p2 (-((n + 1 : Nat) : Int)) * y := by
    have hy2 : (0 : Rat) ≤ (y : Rat) := Rat.natCast_nonneg
    have := Rat.mul_le_mul_of_nonneg_right h2 hy2
    grind
  have h4 : x * 2 ^ (n + 1) < y := by
    have h5 := Rat.mul_lt_mul_of_pos_right h3 (p2_pos ((n + 1 : Nat) : Int))
    have e : p2 (-((n + 1 : Nat) : Int)) * (y : Rat) * p2 ((n + 1 : Nat) : Int) = (y : Rat) := by
      rw [Rat.mul_comm (p2 (-((n + 1 : Nat) : Int))), Rat.mul_assoc, ← p2_add, show -((n + 1 : Nat) : Int) + ((n + 1 : Nat) : Int) = 0 by omega, p2_zero, Rat.mul_one]
    rw [e, p2_nat, ← Rat.natCast_mul] at h5
    exact Rat.natCast_lt_natCast.1 h5
  have h5 : 2 * (x * 2 ^ n) < y := by
    have : x * 2 ^ (n + 1) = 2 * (x * 2 ^ n) := by rw [Nat.pow_succ]; generalize 2 ^ n = z; grind
    omega
  generalize x * 2 ^ n = N at *
  unfold halfE
  rw [Nat.div_eq_of_lt (by omega), Nat.mod_eq_of_lt (by omega), if_neg (by omega)]
set_option maxRecDepth 100000 in
set_option maxHeartbeats 2000000 in
theorem ref06_Near {v : Value} {r : Rat} (w : World) (h : RtR w v r) (hf : fits r) (he : rnum r = 0 ∨ fexp (rnum r) r.den ≤ 900) :
    Calls Tryz.prog 200 #[v] w fun e w' => ∃ F, flo (rneg r) (rnum r) r.den = some F ∧ e = .returned (.tuple #[.float .f64 F, .bool true]) ∧ Below w.heap.size w w' := by
  obtain ⟨A, c, A', c', rfl, h1, h2⟩ := h
  have hy0 : 0 < r.den := r.den_pos
  obtain ⟨hf1, hf2⟩ := hf
  generalize rnum r = x at *
  generalize r.den = y at *
  generalize rneg r = g at *
  obtain ⟨W0, hW0⟩ : ∃ W, w.alloc (.cells #[.bool g, .slice A (wl x) c, .slice A' (wl y) c'] 24) = W := ⟨_, rfl⟩
  have hb0 : Below w.heap.size w W0 := by rw [← hW0]; exact (Below.refl _ _).alloc (Nat.le_refl _) _
  have hk : W0.heap[w.heap.size]? = some (.cells #[.bool g, .slice A (wl x) c, .slice A' (wl y) c'] 24) := by rw [← hW0]; exact heap_alloc_new w _
  have HA := Lib.hid (And.intro hb0 (And.intro hk (And.intro (h1.below hb0) (h2.below hb0))))
  obtain ⟨⟨z0, z1, z2⟩⟩ := And.intro (cell3 hk) trivial
  clear hb0 hk h1 h2
  go_enter Tryz.func200, Tryz.ntmps200
  by_cases hx0 : x = 0
  · have hwx : wl x = 0 := wl_eq_zero.2 hx0
    have HF : Hid (flo g x y = some 0) := by show _ = _; unfold flo; rw [if_pos hx0]
    rw [hwx] at z1
    have hX := Lib.hid hx0
    clear hx0
    go_wp2_with fail
    go_ret2
    exact ⟨_, HF.out, rfl, (Below.refl _ _).alloc (Nat.le_refl _) _⟩
  · have hwx : 0 < wl x := by have := wl_eq_zero (x := x); omega
    have he' : fexp x y ≤ 900 := by omega
    have e0 : ((wl x : Int) == 0) = false := by simp; omega
    have hwl : w.heap.size < W0.heap.size := heap_lt HA.out.2.1
    have bx := blen_wl x
    have bY := blen_wl y
    have hb1 := fun (w' : World) (hB : Below W0.heap.size W0 w') => ref01_Bits A (wl x) c (wds x) w' (HA.out.2.2.1.below hB)
    have hb2 := fun (w' : World) (hB : Below W0.heap.size W0 w') => ref01_Bits A' (wl y) c' (wds y) w' (HA.out.2.2.2.below hB)
    rw [val_wds] at hb1 hb2
    have HB1 := Lib.hid hb1
    have HB2 := Lib.hid hb2
    have hS : ∀ w', Below W0.heap.size W0 w' → (w'.cell? ⟨w.heap.size, 1, none⟩ = some (.slice A (wl x) c) ∧ w'.cell? ⟨w.heap.size, 2, none⟩ = some (.slice A' (wl y) c')) := fun w' hB => ⟨(hB.cell (p := ⟨w.heap.size, 1, none⟩) hwl).trans z1, (hB.cell (p := ⟨w.heap.size, 2, none⟩) hwl).trans z2.1⟩
    have HS := Lib.hid hS
    clear hb1 hb2 hS
    go_upto_region 3 with fail
    have HW0 := Lib.hid hW0
    clear hW0
    obtain ⟨ev, hev⟩ : ∃ ev : Int, (blen x : Int) - (blen y : Int) = ev := ⟨_, rfl⟩
    have hev1 : -65536 ≤ ev := by omega
    have hev2 : ev ≤ 65536 := by omega
    have hwr : IntKind.i64.wrap ((blen x : Int) - (blen y : Int)) = ev := by rw [IntKind.wrap_i64]; omega
    have HEV := Lib.hid hev
    clear hev
    have hBv1 : True := trivial
    have hBv2 : True := trivial
    go_region_held3 (fun w' => w'.cell? ⟨w.heap.size, 1, none⟩ = some (.slice A (wl x) c) ∧ w'.cell? ⟨w.heap.size, 2, none⟩ = some (.slice A' (wl y) c'))
      ((refine HS.out _ ?_; (focus ((repeat (first | with_reducible exact Below.refl _ _ | with_reducible exact hBv2 | with_reducible exact hBv1 | with_reducible refine bel_drew ?_)); done))))
      (first
        | (go_at_call 272; (with_reducible refine (HB1.out _ ?_).mono ?_); (focus ((repeat (first | with_reducible exact Below.refl _ _ | with_reducible refine bel_drew ?_)); done)); rintro e v1 ⟨rfl, hC1⟩; (refine imp_use (P := Below W0.heap.size W0 v1) ?_ ?_; (focus (exact bel_step (bel_drew (Below.refl _ _)) hC1)); intro hBv1))
        | (go_at_call 272; (with_reducible refine (HB2.out _ ?_).mono ?_); (focus ((repeat (first | with_reducible exact hBv1 | with_reducible refine bel_drew ?_)); done)); rintro e v2 ⟨rfl, hC2⟩; (refine imp_use (P := Below W0.heap.size W0 v2) ?_ ?_; (focus (exact bel_step hBv1 hC2)); intro hBv2)))
    have HB3 := Lib.hid (And.intro (bel_step HA.out.1 hBv2) (And.intro (blk_below hBv2 HA.out.2.1) (And.intro (HA.out.2.2.1.below hBv2) (HA.out.2.2.2.below hBv2))))
    clear HB1 HB2 HS hBv1 hBv2 hC1 hC2 HA z0 z1 z2 hwl hwr
    obtain ⟨z0, z1, z2⟩ := cell3 HB3.out.2.1
    have hwl : w.heap.size < v2.heap.size := heap_lt HB3.out.2.1
    have HFX : Hid (fexp x y = if x * 2 ^ (-ev).toNat < y * 2 ^ ev.toNat then ev - 1 else ev) := by
      show _ = _
      unfold fexp
      rw [HEV.out, show (blen y : Int) - (blen x : Int) = -ev by have := HEV.out; omega]
    have HSC := Lib.hid (ref06_scaled (k := ev) v2 HB3.out.2.2.1 HB3.out.2.2.2 hf1 hf2 (by omega) (by omega))
    clear HEV
    go_upto_region 4 with fail
    go_wp2_with fail
    refine HSC.out.mono ?_
    rintro e w4 ⟨B, d, B', d', rfl, hR1, hR2, hB4⟩
    have HC4 := Lib.hid (ref01_Compare B B' _ d _ d' _ _ w4 hR1 hR2)
    have HB4 := Lib.hid (And.intro (bel_step HB3.out.1 hB4) (And.intro (blk_below hB4 HB3.out.2.1) (And.intro (HB3.out.2.2.1.below hB4) (HB3.out.2.2.2.below hB4))))
    clear hR1 hR2 hB4 HB3 HSC z0 z1 z2
    go_wp2_with fail
    refine HC4.out.mono ?_
    rintro e w5 ⟨rfl, hd5⟩
    rw [val_wds, val_wds]
    have hB5 := hd5.below w4.heap.size
    have HB5 := Lib.hid (And.intro (bel_step HB4.out.1 hB5) (And.intro (blk_below hB5 HB4.out.2.1) (And.intro (HB4.out.2.2.1.below hB5) (HB4.out.2.2.2.below hB5))))
    clear hB5 hd5 HB4 HC4
    obtain ⟨z0, z1, z2⟩ := cell3 HB5.out.2.1
    have hpb := fpl_bd (x := x) (y := y) (by omega)
    have hfm := fman_le (x := x) (y := y) (by omega) hy0
    have HFM : Hid (fman x y = halfE (x * 2 ^ (-fpl x y).toNat) (y * 2 ^ (fpl x y).toNat)) := rfl
    have HFL : Hid (flo g x y = if fexp x y < -1075 then some 0 else if double.nearest false (fman x y) (fpl x y) = 9218868437227405312 then none else if g = true ∧ double.nearest false (fman x y) (fpl x y) ≠ 0 then some (9223372036854775808 + double.nearest false (fman x y) (fpl x y)) else some (double.nearest false (fman x y) (fpl x y))) := by
      show _ = _; unfold flo; rw [if_neg hx0, if_neg (by omega)]
    have HLOW := Lib.hid (fun h => halfE_low (x := x) (y := y) (by omega) hy0 h rfl)
    have hpd : max (fexp x y - 52) (-1074) = fpl x y := rfl
    have hplow : fpl x y ≤ 900 := by unfold fpl; omega
    have HEE : Hid ((x * 2 ^ (-ev).toNat < y * 2 ^ ev.toNat ∧ fexp x y = ev - 1) ∨ (¬ x * 2 ^ (-ev).toNat < y * 2 ^ ev.toNat ∧ fexp x y = ev)) := by
      have := HFX.out
      by_cases hlt : x * 2 ^ (-ev).toNat < y * 2 ^ ev.toNat
      · rw [if_pos hlt] at this; exact .inl ⟨hlt, this⟩
      · rw [if_neg hlt] at this; exact .inr ⟨hlt, this⟩
    have hfb : -65537 ≤ fexp x y := by have := HEE.out; omega
    have hfu : fexp x y ≤ 900 := he'
    clear HFX he he' hx0
    generalize hpp : fpl x y = pp at *
    generalize fman x y = mm at *
    generalize fexp x y = fe at *
    clear hpp
    generalize x * 2 ^ (-ev).toNat = XA at *
    generalize y * 2 ^ ev.toNat = YA at *
    go_upto_if 35 with fail
    go_cut [4] from 32 to 37 (fun evv wx => evv = .int .i64 fe ∧ wx = w5)
    case first =>
      rcases HEE.out with ⟨hlt, hfe⟩ | ⟨hlt, hfe⟩
      · rw [cmpN_lt hlt]
        have HFE := Lib.hid hfe
        have hw1 : wrap64 (ev - 1) = ev - 1 := by unfold wrap64; omega
        clear hlt hfe HEE
        go_wp2_with fail
        go_meet
        case rel =>
          refine ⟨?_, rfl⟩
          have hq := HFE.out
          rw [hq]
      · have hcv : cmpN XA YA = 0 ∨ cmpN XA YA = 1 := by
          unfold cmpN
          rw [if_neg hlt]
          split
          · exact .inr rfl
          · exact .inl rfl
        have HFE := Lib.hid hfe
        clear hlt hfe HEE
        rcases hcv with hcv | hcv
        · rw [hcv]
          clear hcv
          go_wp2_with fail
          go_meet
          case rel => exact ⟨by rw [HFE.out], rfl⟩
        · rw [hcv]
          clear hcv
          go_wp2_with fail
          go_meet
          case rel => exact ⟨by rw [HFE.out], rfl⟩
    case rest =>
      obtain ⟨rfl, rfl⟩ := hcut
      go_upto_if 41 with fail
      go_cut [7] from 38 to 41 (fun pv wx => pv = .int .i64 pp ∧ wx = wc)
      case first =>
        by_cases hp : fe - 52 < -1074
        · have HPP : Hid (pp = -1074) := by show _ = _; omega
          clear HEE HFM HFL HLOW hpd
          go_wp2_with fail
          go_meet
          case rel => exact ⟨by rw [HPP.out], rfl⟩
        · have HPP : Hid (pp = fe - 52) := by show _ = _; omega
          clear HEE HFM HFL HLOW hpd
          go_wp2_with fail
          go_meet
          case rel => exact ⟨by rw [HPP.out], rfl⟩
      case rest =>
        obtain ⟨rfl, rfl⟩ := hcut
        clear HEE
        have hwl5 : w.heap.size < wc.heap.size := heap_lt HB5.out.2.1
        go_upto_region 12 with fail
        have HS5 := Lib.hid (fun (w' : World) (hB : Below wc.heap.size wc w') => (hB.cell (p := ⟨w.heap.size, 2, none⟩) hwl5).trans z2.1)
        go_region_held3 (fun w' => w'.cell? ⟨w.heap.size, 2, none⟩ = some (.slice A' (wl y) c'))
          ((refine HS5.out _ ?_; (focus ((repeat (first | with_reducible exact Below.refl _ _ | with_reducible refine bel_drew ?_ | with_reducible refine bel_alloc ?_ _)); done))))
          (first | fail)
        obtain ⟨W6, hW6⟩ : ∃ W, (wc.alloc (.cells #[] 116)).drew = W := ⟨_, rfl⟩
        rw [hW6]
        have hB6 : Below wc.heap.size wc W6 := by rw [← hW6]; exact bel_drew (bel_alloc (Below.refl _ _) _)
        have HB6 := Lib.hid (And.intro (bel_step HB5.out.1 hB6) (And.intro (blk_below hB6 HB5.out.2.1) (And.intro (HB5.out.2.2.1.below hB6) (HB5.out.2.2.2.below hB6))))
        clear hB6 hW6 HB5 HS5 z0 z1 z2
        have hwl6 : w.heap.size < W6.heap.size := heap_lt HB6.out.2.1
        obtain ⟨z0, z1, z2⟩ := cell3 HB6.out.2.1
        have hNx : wl (x * 2 ^ (-pp).toNat) ≤ 8000 := by have := wl_mul x (2 ^ (-pp).toNat); have := wl_pow2 (-pp).toNat; omega
        have hDy : wl (y * 2 ^ pp.toNat) ≤ 8000 := by have := wl_mul y (2 ^ pp.toNat); have := wl_pow2 pp.toNat; omega
        have hD0 : 0 < y * 2 ^ pp.toNat := Nat.mul_pos hy0 (Nat.pow_pos (by decide))
        go_upto_if 48 with fail
        go_cut [8, 9] from 47 to 57 (fun nv dv wx => ∃ N D B d B' d', nv = .slice B (wl N) d ∧ dv = .slice B' (wl D) d' ∧ Rd wx B (wl N) d (wds N) ∧ Rd wx B' (wl D) d' (wds D) ∧ halfE N D = mm ∧ wl N ≤ 8000 ∧ wl D ≤ 8000 ∧ 0 < D ∧ Below W6.heap.size W6 wx)
        case first =>
          by_cases hlow : -1080 ≤ fe
          · have HSC := Lib.hid (ref06_scaled (k := pp) W6 HB6.out.2.2.1 HB6.out.2.2.2 hf1 hf2 (by omega) (by omega))
            have HM := HFM
            have HN1 := Lib.hid (And.intro hNx (And.intro hDy hD0))
            clear HFM HFL HLOW hpd hNx hDy hD0
            go_wp2_with fail
            refine HSC.out.mono ?_
            rintro e w7 ⟨B, d, B', d', rfl, hR1, hR2, hB7⟩
            generalize x * 2 ^ (-pp).toNat = N at *
            generalize y * 2 ^ pp.toNat = D at *
            have HR := Lib.hid (And.intro hR1 (And.intro hR2 hB7))
            clear hR1 hR2 hB7 HSC
            go_wp2_with fail
            go_meet
            case rel => exact ⟨N, D, _, _, _, _, rfl, rfl, HR.out.1, HR.out.2.1, HM.out.symm, HN1.out.1, HN1.out.2.1, HN1.out.2.2, HR.out.2.2⟩
          · have hm0 : mm = 0 := HFM.out.trans (HLOW.out (by omega))
            have hrd0 : Rd W6 (some ⟨wc.heap.size, 0, none⟩) 0 0 [] := ⟨rfl, lim_nil, Nat.le_refl _, ⟨by omega, Nat.zero_le _⟩, fun h => absurd h (by omega)⟩
            have hh0 : halfE 0 y = mm := by rw [hm0]; unfold halfE; rw [Nat.zero_div, Nat.zero_mod, if_neg (by omega)]
            have HN1 := Lib.hid (And.intro hrd0 hh0)
            clear HFM HFL HLOW hpd hNx hDy hD0 hm0 hrd0 hh0
            go_wp2_with fail
            go_meet
            case rel => exact ⟨0, y, _, _, _, _, by rw [wl_zero], rfl, by rw [wl_zero, wds_zero]; exact HN1.out.1, HB6.out.2.2.2, HN1.out.2, by rw [wl_zero]; omega, by omega, hy0, Below.refl _ _⟩
        case rest =>
          obtain ⟨N, D, B2, d2, B2', d2', rfl, rfl, hR1, hR2, hhe, hN8, hD8, hD0', hB7⟩ := hcut
          rename World => w7
          have hpl : -1074 ≤ pp := hpb.1
          obtain ⟨hX1, hX2, hX3⟩ := nearest_facts hfm hpl hplow
          have hLd := fun w' => math_Ldexp (m := mm) (k := pp) w' hfm hpl (log_bd hfm hplow)
          have hfo : floatOfInt .f64 (mm : Int) = double.nearest false mm 0 := float_nat mm
          obtain ⟨X, hX⟩ : ∃ X, double.nearest false mm pp = X := ⟨_, rfl⟩
          obtain ⟨F0, hF0⟩ : ∃ X, double.nearest false mm 0 = X := ⟨_, rfl⟩
          have HM0 : Hid (fe < -1075 → X = 0) := fun h => by
            have hm0 : mm = 0 := HFM.out.trans (HLOW.out h)
            rw [← hX, hm0]; rfl
          rw [hX] at hX2 hX3 HFL hLd
          rw [hF0] at hfo hLd
          have HFL2 : Hid (flo g x y = if g = true ∧ X ≠ 0 then some (9223372036854775808 + X) else some X) := by
            show _ = _
            rw [HFL.out]
            by_cases hlo : fe < -1075
            · have h0 := HM0.out hlo
              rw [if_pos hlo, if_neg (by simp [h0]), h0]
            · rw [if_neg hlo, if_neg (by omega)]
          have HIN := Lib.hid (And.intro hX1 (And.intro hX2 (And.intro hX3 hLd)))
          have HEV2 := Lib.hid (ref06_even w7 hR1 hR2 hN8 hD8 hD0' (by rw [hhe]; exact hfm))
          rw [hhe] at HEV2
          have HB7 := Lib.hid (And.intro (bel_step HB6.out.1 hB7) (blk_below hB7 HB6.out.2.1))
          have hpn : (pp == 971) = false := by simp; omega
          clear hX hF0 HFL HM0 HFM HLOW hX1 hX3 hLd hR1 hR2 hhe hB7 HB6 z0 z1 z2 hpd hNx hDy hD0
          go_wp2_with fail
          refine HEV2.out.mono ?_
          rintro e w8 ⟨rfl, hB8⟩
          have HB8 := Lib.hid (And.intro (bel_step HB7.out.1 hB8) (blk_below hB8 HB7.out.2))
          clear hB8 HB7 HEV2
          obtain ⟨z0, z1, z2⟩ := cell3 HB8.out.2
          have hx3 := HIN.out.2.2.1
          have hfl := HFL2.out
          by_cases hX0 : X = 0
          · have e7 : (FloatKind.f64.format.order X 0 != some Ordering.eq) = false := by rw [hx3]; simp [hX0]
            have HE : Hid (flo g x y = some X) := by show _ = _; rw [hfl, if_neg (by simp [hX0])]
            clear hx3 hfl hX0
            cases g
            · go_wp2_with (first | (go_at_call 197; refine (HIN.out.2.2.2 _).mono ?_; rintro e w' ⟨rfl, rfl⟩))
              go_ret2
              exact ⟨_, HE.out, rfl, HB8.out.1⟩
            · go_wp2_with (first | (go_at_call 197; refine (HIN.out.2.2.2 _).mono ?_; rintro e w' ⟨rfl, rfl⟩))
              go_ret2
              exact ⟨_, HE.out, rfl, HB8.out.1⟩
          · have e7 : (FloatKind.f64.format.order X 0 != some Ordering.eq) = true := by rw [hx3]; simp [hX0]
            cases g
            · have HE : Hid (flo false x y = some X) := by show _ = _; rw [hfl, if_neg (by simp)]
              clear hx3 hfl hX0
              go_wp2_with (first | (go_at_call 197; refine (HIN.out.2.2.2 _).mono ?_; rintro e w' ⟨rfl, rfl⟩))
              go_ret2
              exact ⟨_, HE.out, rfl, HB8.out.1⟩
            · have HE : Hid (flo true x y = some (9223372036854775808 + X)) := by show _ = _; rw [hfl, if_pos ⟨rfl, hX0⟩]
              have hneg := fun w => run_neg (P := Tryz.prog) (X := X) (by omega) w
              clear hx3 hfl hX0
              go_wp2_with (first | (go_at_call 197; refine (HIN.out.2.2.2 _).mono ?_; rintro e w' ⟨rfl, rfl⟩))
              go_ret2
              exact ⟨_, HE.out, rfl, HB8.out.1⟩
end Go.Proofs.YtcbkijeonilcjaaGreat

/- The reference of layer 6: Nearest. -/
namespace Go.Proofs.YtcbkijeonilcjaaGreat
open Go.RowKit Ieee

set_option maxRecDepth 100000 in
set_option maxHeartbeats 1000000 in
theorem ref06_Nearest {v : Value} {r : Rat} (w : World) (h : RtR w v r) (hf : fits r) (he : rnum r = 0 ∨ fexp (rnum r) r.den ≤ 900) :
    Calls Tryz.prog 116 #[v] w fun e w' => ∃ F, flo (rneg r) (rnum r) r.den = some F ∧ e = .returned (.tuple #[.float .f64 F, .int .i64 0]) ∧ Below w.heap.size w w' := by
  have h0 := h
  obtain ⟨A, c, A', c', rfl, h1, h2⟩ := h
  have hchk := chkR_rat hf
  have HC := Lib.hid (fun w' (hB : Below w.heap.size w w') => ref03_Check (rneg r) A A' (wl (rnum r)) (wl r.den) c c' (wds (rnum r)) (wds r.den) w' (h1.below hB) (h2.below hB))
  have HN := Lib.hid (fun w' (hB : Below w.heap.size w w') => ref06_Near w' (h0.below hB) hf he)
  have HCK := Lib.hid hchk
  clear hchk h0 h1 h2 he hf
  generalize rnum r = x at *
  generalize r.den = y at *
  generalize rneg r = g at *
  obtain ⟨W0, hW0⟩ : ∃ W, w.alloc (.cells #[.bool g, .slice A (wl x) c, .slice A' (wl y) c'] 24) = W := ⟨_, rfl⟩
  have hb0 : Below w.heap.size w W0 := by rw [← hW0]; exact (Below.refl _ _).alloc (Nat.le_refl _) _
  have hk : W0.heap[w.heap.size]? = some (.cells #[.bool g, .slice A (wl x) c, .slice A' (wl y) c'] 24) := by rw [← hW0]; exact heap_alloc_new w _
  have HA := Lib.hid (And.intro hb0 hk)
  obtain ⟨z0, z1, z2⟩ := cell3 hk
  clear hb0 hk
  go_enter Tryz.func116, Tryz.ntmps116
  go_wp2_with fail
  have HW0 := Lib.hid hW0
  clear hW0
  refine (HC.out W0 HA.out.1).mono ?_
  rintro e w1 ⟨rfl, hB1⟩
  rw [HCK.out]
  have HB1 := Lib.hid (And.intro (bel_step HA.out.1 hB1) (blk_below hB1 HA.out.2))
  clear z0 z1 z2 hB1 HA
  obtain ⟨z0, z1, z2⟩ := cell3 HB1.out.2
  go_wp2_with fail
  refine (HN.out w1 HB1.out.1).mono ?_
  rintro e w2 ⟨F, hF, rfl, hB2⟩
  have HF := Lib.hid (And.intro hF (bel_step HB1.out.1 hB2))
  clear hF hB2
  go_wp2_with fail
  go_ret2
  exact ⟨_, HF.out.1, rfl, HF.out.2⟩
end Go.Proofs.YtcbkijeonilcjaaGreat
