/- math.Ldexp. -/
import Derived.Test.YtcbkijeonilcjaaGreatHC5
import Derived.Test.YtcbkijeonilcjaaGreatHC6
import Derived.Test.YtcbkijeonilcjaaGreatHC27
import Derived.Test.YtcbkijeonilcjaaGreatHC28
namespace Go.Proofs.YtcbkijeonilcjaaGreat
open Go.RowKit

attribute [local go_sem] run_bits run_frombits
theorem rat_pos_of {m : Nat} (h : m ≠ 0) (k : Int) : (m : Rat) * p2 k = 0 → False := fun e => by
  have h5 := (mag_log h k).1
  rw [e] at h5
  exact absurd h5 (Rat.not_le.2 (p2_pos _))
set_option maxRecDepth 100000 in
theorem math_normalize {F : Nat} {a : Rat} (h : Num F false a) (ha : p2 (-1022) ≤ a) (w : World) :
    Calls Tryz.prog 317 #[.float .f64 F] w fun e w' => e = .returned (.tuple #[.float .f64 F, .int .i64 0]) ∧ w' = w := by
  have hb := h.1
  obtain ⟨_, hs, h2, _⟩ := num_rung h
  have hF : F % 9223372036854775808 = F := by
    by_cases k : 9223372036854775808 ≤ F
    · rw [decide_eq_true k] at hs; exact absurd hs (by decide)
    · omega
  have ho : (FloatKind.f64.format.order F 4503599627370496 == some Ordering.lt) = false := by
    show (Ieee.double.order F 4503599627370496 == some Ordering.lt) = false
    rw [order_num h num_normal]
    show (some (if a < p2 (-1022) then Ordering.lt else if a = p2 (-1022) then Ordering.eq else Ordering.gt) == some Ordering.lt) = false
    rw [if_neg (Rat.not_lt.2 ha)]
    by_cases k : a = p2 (-1022)
    · rw [if_pos k]; rfl
    · rw [if_neg k]; rfl
  have HF := Lib.hid hF
  clear hF h h2 hs
  go_enter Tryz.func317, Tryz.ntmps317
  go_wp2_with (go_at_call 113; refine (math_Abs _ _ hb).mono ?_; rintro e w' ⟨rfl, rfl⟩; rw [HF.out])
  go_ret2
  exact ⟨rfl, rfl⟩
theorem and_frac {F : Nat} (h : F < 9223372036854775808) : F &&& 9227875636482146303 = F % 4503599627370496 := by
  rw [show (9227875636482146303 : Nat) = 2 ^ 63 ||| (2 ^ 52 - 1) from by decide, Nat.and_or_distrib_left, Nat.and_two_pow_sub_one_eq_mod]
  have e : F &&& 2 ^ 63 = 0 := by
    apply Nat.eq_of_testBit_eq
    intro i
    rw [Nat.testBit_and, Nat.testBit_two_pow, Nat.zero_testBit]
    by_cases hi : 63 = i
    · subst hi
      rw [Nat.testBit_lt_two_pow (by rw [show (2 : Nat) ^ 63 = 9223372036854775808 from by decide]; exact h)]; rfl
    · simp [hi]
  rw [e, Nat.zero_or, two52]
theorem or_bits {f : Nat} {y : Int} (hf : f < 4503599627370496) (h1 : -1022 ≤ y) (h2 : y ≤ 1023) : bits .or .u64 (f : Int) ((y + 1023) * 4503599627370496) = (((y + 1023).toNat * 4503599627370496 + f : Nat) : Int) := by
  obtain ⟨c, hc⟩ : ∃ c : Nat, y + 1023 = (c : Int) := ⟨(y + 1023).toNat, by omega⟩
  rw [hc, Int.toNat_natCast]
  have h := u64_or_nat f (c * 4503599627370496) (by omega) (by omega)
  rw [show ((c : Int) * 4503599627370496) = ((c * 4503599627370496 : Nat) : Int) by omega]
  refine h.trans ?_
  congr 1
  rw [Nat.or_comm, ← two52, ← Nat.shiftLeft_eq, Nat.shiftLeft_add_eq_or_of_lt (by rw [two52]; exact hf)]
theorem i64_and2047 (n : Nat) (hn : n < 2048) : bits .and .i64 (n : Int) 2047 = (n : Int) := by
  have h127 : (BitVec.ofInt 64 2047).toNat = 2 ^ 11 - 1 := by decide
  have key : (BitVec.ofInt 64 (n : Int) &&& BitVec.ofInt 64 2047).toNat = ((n : Int) % ((2 ^ 64 : Nat) : Int)).toNat % 2 ^ 11 := by
    rw [BitVec.toNat_and, BitVec.toNat_ofInt, h127, Nat.and_two_pow_sub_one_eq_mod]
  show IntKind.i64.wrap ((BitVec.ofInt 64 (n : Int) &&& BitVec.ofInt 64 2047).toNat : Nat) = _
  rw [key, IntKind.wrap_i64]
  omega
theorem val_eq {m f : Nat} {l k y : Int} (h : (m : Rat) * p2 0 = ((4503599627370496 + f : Nat) : Rat) * p2 (0 + l - 52)) (e : Int) (he : e + (y - 52) = k + l - 52) : p2 e * (((4503599627370496 + f : Nat) : Rat) * p2 (y - 52)) = (m : Rat) * p2 k := by
  rw [p2_zero, Rat.mul_one] at h
  rw [h, Rat.mul_assoc, ← p2_add, ← Rat.mul_assoc, Rat.mul_comm (p2 e), Rat.mul_assoc, ← p2_add]
  congr 2
  omega
set_option maxRecDepth 100000 in
theorem math_ldexp {m : Nat} {k : Int} (w : World) (h0 : m ≠ 0) (hm : m ≤ 9007199254740992) (hk : -1074 ≤ k) (hk2 : k + m.log2 ≤ 1022) :
    Calls Tryz.prog 271 #[.float .f64 (Ieee.double.nearest false m 0), .int .i64 k] w fun e w' => e = .returned (.float .f64 (Ieee.double.nearest false m k)) ∧ w' = w := by
  have hl : m.log2 ≤ 53 := by
    rcases log2_53 h0 hm with h | h
    · omega
    · rw [h]; decide
  have hN : Num (Ieee.double.nearest false m 0) false ((m : Rat) * p2 0) := exact_num false 0 1023 h0 hm (by decide) (by decide) (by decide) (by
    have h1 := (mag_log h0 0).2
    have h2 : p2 (0 + (m.log2 : Int) + 1) ≤ p2 1023 := p2_mono (by omega)
    grind)
  obtain ⟨F, hF⟩ : ∃ F, Ieee.double.nearest false m 0 = F := ⟨_, rfl⟩
  rw [hF] at hN ⊢
  clear hF
  obtain ⟨q1, q2, q3⟩ := bits_of h0 hN (by omega)
  obtain ⟨l, hll⟩ : ∃ l : Nat, m.log2 = l := ⟨_, rfl⟩
  have HL := Lib.hid hll
  rw [hll] at q1 q3 hk2 hl
  have hna : p2 (-1022) ≤ (m : Rat) * p2 0 := by
    have h1 := (mag_log h0 0).1
    have h2 : p2 (-1022) ≤ p2 (0 + (m.log2 : Int)) := p2_mono (by omega)
    grind
  have e1 : (FloatKind.f64.format.order F 0 == some Ordering.eq) = false := by
    show (Ieee.double.order F 0 == some Ordering.eq) = false
    rw [order_num hN num_zero]
    show (some (if (m : Rat) * p2 0 < 0 then Ordering.lt else if (m : Rat) * p2 0 = 0 then Ordering.eq else Ordering.gt) == some Ordering.eq) = false
    by_cases c : (m : Rat) * p2 0 < 0
    · rw [if_pos c]; rfl
    · rw [if_neg c, if_neg (rat_pos_of h0 0)]; rfl
  have HI := Lib.hid (fun w => math_IsInf hN w)
  have HNN := Lib.hid (fun w => math_IsNaN_num hN w)
  have HNO := Lib.hid (fun w => math_normalize hN hna w)
  have HQ3 := Lib.hid q3
  clear hll hna hN q3
  have d1 : ((F : Int) / 4503599627370496) = (l : Int) + 1023 := by omega
  have b1 : bits .and .i64 ((F : Int) / 4503599627370496) 2047 = (l : Int) + 1023 := by
    rw [d1, show (l : Int) + 1023 = ((l + 1023 : Nat) : Int) by omega]
    exact i64_and2047 _ (by omega)
  have b2 : bits .andNot .u64 (F : Int) 9218868437227405312 = ((F % 4503599627370496 : Nat) : Int) := by
    have h := u64_andNot_nat F 9218868437227405312 (by omega) (by decide)
    refine h.trans ?_
    congr 1
    exact and_frac (by omega)
  obtain ⟨f, hf⟩ : ∃ f, F % 4503599627370496 = f := ⟨_, rfl⟩
  have hf2 : f < 4503599627370496 := by omega
  rw [hf] at b2
  have HFF := Lib.hid hf
  clear hf d1 q1
  have hKb : (m : Rat) * p2 k ≤ p2 1023 := by
    have h1 := (mag_log h0 k).2
    have h2 : p2 (k + (m.log2 : Int) + 1) ≤ p2 1023 := p2_mono (by have := HL.out; omega)
    grind
  obtain ⟨R, hR⟩ : ∃ R, Ieee.double.nearest false m k = R := ⟨_, rfl⟩
  rw [HFF.out] at HQ3
  by_cases hd : k + (l : Int) < -1022
  · have b3 := or_bits hf2 (y := k + l + 53) (by omega) (by omega)
    have hmul := fmul_exact (num_pow (x := -53) (by decide) (by decide)) (num_bits (x := k + l + 53) hf2 (by omega) (by omega)) h0 hm hk (K := 1023) (by decide) (by decide) hKb (val_eq HQ3.out (-53) (by omega))
    rw [show ((-53 : Int) + 1023).toNat * 4503599627370496 = 4368491638549381120 from by decide, show (false ^^ false) = false from rfl, hR] at hmul
    rw [hR]
    clear hR HQ3
    have hrun := fun w => run_float_arith (P := Tryz.prog) (w := w) .mul 30 .f64 _ _ _ hmul
    clear hmul
    generalize (k + l + 53 + 1023).toNat * 4503599627370496 + f = G at *
    clear hKb
    go_enter Tryz.func271, Tryz.ntmps271
    go_wp2_with (first | (go_at_call 146; refine (HI.out _).mono ?_; rintro e w' ⟨rfl, rfl⟩) | (go_at_call 136; refine (HNN.out _).mono ?_; rintro e w' ⟨rfl, rfl⟩) | (go_at_call 317; refine (HNO.out _).mono ?_; rintro e w' ⟨rfl, rfl⟩))
    go_ret
    exact ⟨rfl, rfl⟩
  · have b3 := or_bits hf2 (y := k + l) (by omega) (by omega)
    have hmul := fmul_exact (num_pow (x := 0) (by decide) (by decide)) (num_bits (x := k + l) hf2 (by omega) (by omega)) h0 hm hk (K := 1023) (by decide) (by decide) hKb (val_eq HQ3.out 0 (by omega))
    rw [show ((0 : Int) + 1023).toNat * 4503599627370496 = 4607182418800017408 from by decide, show (false ^^ false) = false from rfl, hR] at hmul
    rw [hR]
    clear hR HQ3
    have hrun := fun w => run_float_arith (P := Tryz.prog) (w := w) .mul 30 .f64 _ _ _ hmul
    clear hmul
    generalize (k + l + 1023).toNat * 4503599627370496 + f = G at *
    clear hKb
    go_enter Tryz.func271, Tryz.ntmps271
    go_wp2_with (first | (go_at_call 146; refine (HI.out _).mono ?_; rintro e w' ⟨rfl, rfl⟩) | (go_at_call 136; refine (HNN.out _).mono ?_; rintro e w' ⟨rfl, rfl⟩) | (go_at_call 317; refine (HNO.out _).mono ?_; rintro e w' ⟨rfl, rfl⟩))
    go_ret
    exact ⟨rfl, rfl⟩
theorem nearest_zero (k : Int) : Ieee.double.nearest false 0 k = 0 := rfl
set_option maxRecDepth 100000 in
theorem math_ldexp0 (k : Int) (w : World) :
    Calls Tryz.prog 271 #[.float .f64 0, .int .i64 k] w fun e w' => e = .returned (.float .f64 0) ∧ w' = w := by
  have e1 : (FloatKind.f64.format.order 0 0 == some Ordering.eq) = true := by
    show (Ieee.double.order 0 0 == some Ordering.eq) = true
    rw [order_self num_zero]; rfl
  go_enter Tryz.func271, Tryz.ntmps271
  go_wp2
  go_ret
  exact ⟨rfl, rfl⟩
set_option maxRecDepth 100000 in
theorem math_Ldexp {m : Nat} {k : Int} (w : World) (hm : m ≤ 9007199254740992) (hk : -1074 ≤ k) (hk2 : k + m.log2 ≤ 1022) :
    Calls Tryz.prog 197 #[.float .f64 (Ieee.double.nearest false m 0), .int .i64 k] w fun e w' => e = .returned (.float .f64 (Ieee.double.nearest false m k)) ∧ w' = w := by
  by_cases h0 : m = 0
  · subst h0
    rw [nearest_zero, nearest_zero]
    go_enter Tryz.func197, Tryz.ntmps197
    go_wp2_with (go_at_call 271; refine (math_ldexp0 _ _).mono ?_; rintro e w' ⟨rfl, rfl⟩)
    go_ret
    exact ⟨rfl, rfl⟩
  · have HL := Lib.hid (fun w => math_ldexp w h0 hm hk hk2)
    go_enter Tryz.func197, Tryz.ntmps197
    go_wp2_with (go_at_call 271; refine (HL.out _).mono ?_; rintro e w' ⟨rfl, rfl⟩)
    go_ret
    exact ⟨rfl, rfl⟩
end Go.Proofs.YtcbkijeonilcjaaGreat

/- Package real: shifted, power. -/
namespace Go.Proofs.YtcbkijeonilcjaaGreat
open Go.RowKit

theorem blen_wl (x : Nat) : blen x ≤ 32 * wl x := by
  refine blen_le_of_lt ?_
  have h := (wl_le (x := x) (n := wl x)).1 (Nat.le_refl _)
  rw [show (4294967296 : Nat) = 2 ^ 32 from by decide, ← Nat.pow_mul] at h
  exact h
theorem cmpN_ge {x y : Nat} (h : ¬ x < y) : (cmpN x y < 0) = False := by
  simp only [eq_iff_iff, iff_false]
  unfold cmpN
  rw [if_neg h]
  split <;> omega
set_option maxRecDepth 100000 in
theorem real_shifted {A : Option Addr} {c x n : Nat} (w : World) (h : Rd w A (wl x) c (wds x)) (hx : wl x ≤ 8192) (hn : n ≤ 262144) (hs : blen x + n ≤ 262144) :
    Calls Tryz.prog 152 #[.slice A (wl x) c, .int .i64 n] w fun e w' => ∃ v, e = .returned v ∧ Own 116 w' w.heap.size v (wds (x * 2 ^ n)) ∧ Below w.heap.size w w' := by
  have HH := Lib.hid (nat_Shift A c x n w h hx hn hs)
  clear h hx hn hs
  go_enter Tryz.func152, Tryz.ntmps152
  go_wp2_with (go_at_call 229; refine HH.out.mono ?_; rintro e w1 ⟨v, rfl, hO, hB⟩)
  go_ret
  exact ⟨_, rfl, hO, hB⟩
set_option maxRecDepth 100000 in
set_option maxHeartbeats 1000000 in
theorem real_power {A A' : Option Addr} {c c' x y : Nat} (w : World) (h : Rd w A (wl x) c (wds x)) (h' : Rd w A' (wl y) c' (wds y)) (hx : wl x ≤ 2048) (hy : wl y ≤ 2048) :
    Calls Tryz.prog 194 #[.slice A (wl x) c, .slice A' (wl y) c'] w fun e w' => e = .returned (.int .i64 (fexp x y)) ∧ Below w.heap.size w w' := by
  have bx : blen x ≤ 65536 := Nat.le_trans (blen_wl x) (by omega)
  have bY : blen y ≤ 65536 := Nat.le_trans (blen_wl y) (by omega)
  have hcx := h.cap
  have hcy := h'.cap
  have HB1 := Lib.hid (fun w' (hb : Drn w w') => nat_Bits A (wl x) c x (wds x) w' (h.below (hb.below _)) (val_wds x) (by omega))
  have HB2 := Lib.hid (fun w' (hb : Drn w w') => nat_Bits A' (wl y) c' y (wds y) w' (h'.below (hb.below _)) (val_wds y) (by omega))
  have HF : Hid (fexp x y = if x * 2 ^ ((blen y : Int) - blen x).toNat < y * 2 ^ ((blen x : Int) - blen y).toNat then (blen x : Int) - blen y - 1 else (blen x : Int) - blen y) := rfl
  have HR := Lib.hid (And.intro h h')
  clear h h'
  go_enter Tryz.func194, Tryz.ntmps194
  go_wp2_with fail
  refine (HB1.out w (Drn.refl _)).mono ?_
  rintro e w1 ⟨rfl, hd1⟩
  have HD1 := Lib.hid hd1
  clear hd1
  go_wp2_with fail
  refine (HB2.out w1 HD1.out).mono ?_
  rintro e w2 ⟨rfl, hd2⟩
  have HD2 := Lib.hid (HD1.out.trans hd2)
  clear hd2
  generalize hbx : blen x = bx' at *
  generalize hby : blen y = by' at *
  by_cases hge : (by' : Int) ≤ bx'
  · obtain ⟨n, hn⟩ : ∃ n : Nat, (bx' : Int) - by' = n := ⟨bx' - by', by omega⟩
    have HF2 : Hid (fexp x y = if x < y * 2 ^ n then (n : Int) - 1 else n) := by
      show _ = _
      rw [HF.out, hn, Int.toNat_natCast, show ((by' : Int) - bx').toNat = 0 by omega, Nat.pow_zero, Nat.mul_one]
    have HS := Lib.hid (real_shifted w2 (HR.out.2.below (HD2.out.below _)) (by omega) (n := n) (by omega) (by rw [hby]; omega))
    clear HF hbx hby
    have hnb : n ≤ 65536 := by omega
    go_wp2_with fail
    refine HS.out.mono ?_
    rintro e w3 ⟨v, rfl, hO, hB⟩
    obtain ⟨A3, c3, rfl, hR3⟩ := hO.wl0
    have HC := Lib.hid (fun w' (hd : Drn w3 w') => nat_Compare A A3 (wl x) c (wl (y * 2 ^ n)) c3 x (y * 2 ^ n) (wds x) (wds (y * 2 ^ n)) w3 ((HR.out.1.below (HD2.out.below _)).below hB) hR3 (val_wds _) (val_wds _))
    have HB := Lib.hid ((HD2.out.below w.heap.size).trans (hB.mono (HD2.out.below w.heap.size).size))
    clear hO hR3 hB
    go_wp2_with fail
    refine (HC.out w3 (Drn.refl _)).mono ?_
    rintro e w4 ⟨rfl, hd4⟩
    have HB4 := Lib.hid (HB.out.trans (hd4.below _))
    clear hd4
    by_cases hlt : x < y * 2 ^ n
    · rw [cmpN_lt hlt]
      have HE : Hid (fexp x y = (n : Int) - 1) := by show _ = _; rw [HF2.out, if_pos hlt]
      clear HF2 hlt
      go_wp2_with fail
      go_ret
      exact ⟨ret_int HE.out.symm, HB4.out⟩
    · have e3 := cmpN_ge hlt
      have HE : Hid (fexp x y = (n : Int)) := by show _ = _; rw [HF2.out, if_neg hlt]
      clear HF2 hlt
      go_wp2_with fail
      go_ret
      exact ⟨ret_int HE.out.symm, HB4.out⟩
  · obtain ⟨n, hn⟩ : ∃ n : Nat, (bx' : Int) - by' = -(n : Int) := ⟨by' - bx', by omega⟩
    have HF2 : Hid (fexp x y = if x * 2 ^ n < y then -(n : Int) - 1 else -(n : Int)) := by
      show _ = _
      rw [HF.out, hn, show ((by' : Int) - bx').toNat = n by omega, show (-(n : Int)).toNat = 0 by omega, Nat.pow_zero, Nat.mul_one]
    have HS := Lib.hid (real_shifted w2 (HR.out.1.below (HD2.out.below _)) (by omega) (n := n) (by omega) (by rw [hbx]; omega))
    clear HF hbx hby
    have hnb : n ≤ 65536 := by omega
    have hn1 : 0 < n := by omega
    go_wp2_with fail
    refine HS.out.mono ?_
    rintro e w3 ⟨v, rfl, hO, hB⟩
    obtain ⟨A3, c3, rfl, hR3⟩ := hO.wl0
    have HC := Lib.hid (fun w' (hd : Drn w3 w') => nat_Compare A3 A' (wl (x * 2 ^ n)) c3 (wl y) c' (x * 2 ^ n) y (wds (x * 2 ^ n)) (wds y) w3 hR3 ((HR.out.2.below (HD2.out.below _)).below hB) (val_wds _) (val_wds _))
    have HB := Lib.hid ((HD2.out.below w.heap.size).trans (hB.mono (HD2.out.below w.heap.size).size))
    clear hO hR3 hB
    go_wp2_with fail
    refine (HC.out w3 (Drn.refl _)).mono ?_
    rintro e w4 ⟨rfl, hd4⟩
    have HB4 := Lib.hid (HB.out.trans (hd4.below _))
    clear hd4
    by_cases hlt : x * 2 ^ n < y
    · rw [cmpN_lt hlt]
      have HE : Hid (fexp x y = -(n : Int) - 1) := by show _ = _; rw [HF2.out, if_pos hlt]
      clear HF2 hlt
      go_wp2_with fail
      go_ret
      exact ⟨ret_int HE.out.symm, HB4.out⟩
    · have e3 := cmpN_ge hlt
      have HE : Hid (fexp x y = -(n : Int)) := by show _ = _; rw [HF2.out, if_neg hlt]
      clear HF2 hlt
      go_wp2_with fail
      go_ret
      exact ⟨ret_int HE.out.symm, HB4.out⟩
end Go.Proofs.YtcbkijeonilcjaaGreat
