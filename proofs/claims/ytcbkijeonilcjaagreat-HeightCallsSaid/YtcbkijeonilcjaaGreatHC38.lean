/- parts.Nearest and its reference. -/
import Derived.Test.YtcbkijeonilcjaaGreatHC17
import Derived.Test.YtcbkijeonilcjaaGreatHC30
import Derived.Test.YtcbkijeonilcjaaGreatHC37
import Derived.Laws.ComplexArith
namespace Go.Proofs.YtcbkijeonilcjaaGreat
open Go.RowKit Ieee

/-- may be told as a float -/
def tell (r : Rat) : Prop := rnum r = 0 ∨ fexp (rnum r) r.den ≤ 900
set_option maxRecDepth 100000 in
set_option maxHeartbeats 1000000 in
theorem parts_Nearest {v : Value} {r s : Rat} (w : World) (h : GtR w v r s) (hr : fits r) (hs : fits s) (tr : tell r) (ts : tell s) :
    Calls Tryz.prog 112 #[v] w fun e w' => ∃ F G, flo (rneg r) (rnum r) r.den = some F ∧ flo (rneg s) (rnum s) s.den = some G ∧ e = .returned (.tuple #[.complex .f64 F G, .int .i64 0]) ∧ Below w.heap.size w w' := by
  obtain ⟨vx, vy, rfl, hx, hy⟩ := h
  have hx0 := hx
  have hy0 := hy
  obtain ⟨A1, c1, A1', c1', rfl, a1, a2⟩ := hx
  obtain ⟨A2, c2, A2', c2', rfl, a3, a4⟩ := hy
  rw [gvV_flat]
  have HC := Lib.hid (fun w' (hB : Below w.heap.size w w') => gauss_Check w' (a1.below hB) (a2.below hB) (a3.below hB) (a4.below hB) (g1 := rneg r) (g2 := rneg s))
  have HK := Lib.hid (fits_fits hr hs)
  have HN1 := Lib.hid (fun w' (hB : Below w.heap.size w w') => real_Nearest w' (hx0.below hB) hr tr)
  have HN2 := Lib.hid (fun w' (hB : Below w.heap.size w w') => real_Nearest w' (hy0.below hB) hs ts)
  clear a1 a2 a3 a4 hx0 hy0 hr hs tr ts
  generalize rnum r = x1 at *
  generalize r.den = y1 at *
  generalize rneg r = g1 at *
  generalize rnum s = x2 at *
  generalize s.den = y2 at *
  generalize rneg s = g2 at *
  obtain ⟨W0, hW0⟩ : ∃ W, w.alloc (.cells #[.bool g1, .slice A1 (wl x1) c1, .slice A1' (wl y1) c1', .bool g2, .slice A2 (wl x2) c2, .slice A2' (wl y2) c2'] 83) = W := ⟨_, rfl⟩
  have hb0 : Below w.heap.size w W0 := by rw [← hW0]; exact (Below.refl _ _).alloc (Nat.le_refl _) _
  have hk : W0.heap[w.heap.size]? = some (.cells #[.bool g1, .slice A1 (wl x1) c1, .slice A1' (wl y1) c1', .bool g2, .slice A2 (wl x2) c2, .slice A2' (wl y2) c2'] 83) := by rw [← hW0]; exact heap_alloc_new w _
  have HA := Lib.hid (And.intro hb0 hk)
  obtain ⟨⟨z0, z1, z2⟩, z3, z4, z5⟩ := cell6 hk
  clear hb0 hk
  go_enter Tryz.func112, Tryz.ntmps112
  go_wp2_with fail
  have HW0 := Lib.hid hW0
  clear hW0
  refine (HC.out W0 HA.out.1).mono ?_
  rintro e w1 ⟨rfl, hB1⟩
  rw [HK.out]
  have HB1 := Lib.hid (And.intro (bel_step HA.out.1 hB1) (blk_below hB1 HA.out.2))
  clear z0 z1 z2 z3 z4 z5 hB1 HA
  obtain ⟨⟨z0, z1, z2⟩, z3, z4, z5⟩ := cell6 HB1.out.2
  go_wp2_with fail
  refine (HN1.out w1 HB1.out.1).mono ?_
  rintro e w2 ⟨F, hF, rfl, hB2⟩
  have HB2 := Lib.hid (And.intro (bel_step HB1.out.1 hB2) (And.intro (blk_below hB2 HB1.out.2) hF))
  clear z0 z1 z2 z3 z4 z5 hB2 HB1 hF
  obtain ⟨⟨z0, z1, z2⟩, z3, z4, z5⟩ := cell6 HB2.out.2.1
  go_wp2_with fail
  refine (HN2.out w2 HB2.out.1).mono ?_
  rintro e w3 ⟨G, hG, rfl, hB3⟩
  have HB3 := Lib.hid (And.intro (bel_step HB2.out.1 hB3) hG)
  clear hB3 hG
  go_wp2_with fail
  go_ret2
  exact ⟨_, _, HB2.out.2.2, HB3.out.2, rfl, HB3.out.1⟩
set_option maxRecDepth 100000 in
set_option maxHeartbeats 1000000 in
theorem ref07_Nearest {v : Value} {r s : Rat} (w : World) (h : GtR w v r s) (hr : fits r) (hs : fits s) (tr : tell r) (ts : tell s) :
    Calls Tryz.prog 121 #[v] w fun e w' => ∃ F G, flo (rneg r) (rnum r) r.den = some F ∧ flo (rneg s) (rnum s) s.den = some G ∧ e = .returned (.tuple #[.complex .f64 F G, .int .i64 0]) ∧ Below w.heap.size w w' := by
  obtain ⟨vx, vy, rfl, hx, hy⟩ := h
  have hx0 := hx
  have hy0 := hy
  obtain ⟨A1, c1, A1', c1', rfl, a1, a2⟩ := hx
  obtain ⟨A2, c2, A2', c2', rfl, a3, a4⟩ := hy
  rw [gvV_flat]
  have HC := Lib.hid (fun w' (hB : Below w.heap.size w w') => ref04_Check w' (a1.below hB) (a2.below hB) (a3.below hB) (a4.below hB) (g1 := rneg r) (g2 := rneg s))
  have HK := Lib.hid (fits_fits hr hs)
  have HN1 := Lib.hid (fun w' (hB : Below w.heap.size w w') => ref06_Nearest w' (hx0.below hB) hr tr)
  have HN2 := Lib.hid (fun w' (hB : Below w.heap.size w w') => ref06_Nearest w' (hy0.below hB) hs ts)
  clear a1 a2 a3 a4 hx0 hy0 hr hs tr ts
  generalize rnum r = x1 at *
  generalize r.den = y1 at *
  generalize rneg r = g1 at *
  generalize rnum s = x2 at *
  generalize s.den = y2 at *
  generalize rneg s = g2 at *
  obtain ⟨W0, hW0⟩ : ∃ W, w.alloc (.cells #[.bool g1, .slice A1 (wl x1) c1, .slice A1' (wl y1) c1', .bool g2, .slice A2 (wl x2) c2, .slice A2' (wl y2) c2'] 83) = W := ⟨_, rfl⟩
  have hb0 : Below w.heap.size w W0 := by rw [← hW0]; exact (Below.refl _ _).alloc (Nat.le_refl _) _
  have hk : W0.heap[w.heap.size]? = some (.cells #[.bool g1, .slice A1 (wl x1) c1, .slice A1' (wl y1) c1', .bool g2, .slice A2 (wl x2) c2, .slice A2' (wl y2) c2'] 83) := by rw [← hW0]; exact heap_alloc_new w _
  have HA := Lib.hid (And.intro hb0 hk)
  obtain ⟨⟨z0, z1, z2⟩, z3, z4, z5⟩ := cell6 hk
  clear hb0 hk
  go_enter Tryz.func121, Tryz.ntmps121
  go_wp2_with fail
  have HW0 := Lib.hid hW0
  clear hW0
  refine (HC.out W0 HA.out.1).mono ?_
  rintro e w1 ⟨rfl, hB1⟩
  rw [HK.out]
  have HB1 := Lib.hid (And.intro (bel_step HA.out.1 hB1) (blk_below hB1 HA.out.2))
  clear z0 z1 z2 z3 z4 z5 hB1 HA
  obtain ⟨⟨z0, z1, z2⟩, z3, z4, z5⟩ := cell6 HB1.out.2
  go_wp2_with fail
  refine (HN1.out w1 HB1.out.1).mono ?_
  rintro e w2 ⟨F, hF, rfl, hB2⟩
  have HB2 := Lib.hid (And.intro (bel_step HB1.out.1 hB2) (And.intro (blk_below hB2 HB1.out.2) hF))
  clear z0 z1 z2 z3 z4 z5 hB2 HB1 hF
  obtain ⟨⟨z0, z1, z2⟩, z3, z4, z5⟩ := cell6 HB2.out.2.1
  go_wp2_with fail
  refine (HN2.out w2 HB2.out.1).mono ?_
  rintro e w3 ⟨G, hG, rfl, hB3⟩
  have HB3 := Lib.hid (And.intro (bel_step HB2.out.1 hB3) hG)
  clear hB3 hG
  go_wp2_with fail
  go_ret2
  exact ⟨_, _, HB2.out.2.2, HB3.out.2, rfl, HB3.out.1⟩
end Go.Proofs.YtcbkijeonilcjaaGreat

/- parts.Mul, parts.Add and their references. -/
namespace Go.Proofs.YtcbkijeonilcjaaGreat
open Go.RowKit Ieee

set_option maxRecDepth 100000 in
theorem parts_Mul {a b c d p q s t x y : Nat} (w : World) (h1 : floatBits .mul .f64 a c = some p) (h2 : floatBits .mul .f64 b d = some q) (h3 : floatBits .mul .f64 a d = some s) (h4 : floatBits .mul .f64 b c = some t) (h5 : floatBits .sub .f64 p q = some x) (h6 : floatBits .add .f64 s t = some y) :
    Calls Tryz.prog 119 #[.complex .f64 a b, .complex .f64 c d] w fun e w' => e = .returned (.complex .f64 x y) ∧ w' = w := by
  have r1 := fun w => run_float_arith (P := Tryz.prog) (w := w) .mul 30 .f64 _ _ _ h1
  have r2 := fun w => run_float_arith (P := Tryz.prog) (w := w) .mul 30 .f64 _ _ _ h2
  have r3 := fun w => run_float_arith (P := Tryz.prog) (w := w) .mul 30 .f64 _ _ _ h3
  have r4 := fun w => run_float_arith (P := Tryz.prog) (w := w) .mul 30 .f64 _ _ _ h4
  have r5 := fun w => run_float_arith (P := Tryz.prog) (w := w) .sub 30 .f64 _ _ _ h5
  have r6 := fun w => run_float_arith (P := Tryz.prog) (w := w) .add 30 .f64 _ _ _ h6
  clear h1 h2 h3 h4 h5 h6
  go_enter Tryz.func119, Tryz.ntmps119
  go_wp2
  go_ret
  exact ⟨rfl, rfl⟩
set_option maxRecDepth 100000 in
theorem ref07_Mul {a b c d p q s t x y : Nat} (w : World) (h1 : floatBits .mul .f64 a c = some p) (h2 : floatBits .mul .f64 b d = some q) (h3 : floatBits .mul .f64 a d = some s) (h4 : floatBits .mul .f64 b c = some t) (h5 : floatBits .sub .f64 p q = some x) (h6 : floatBits .add .f64 s t = some y) :
    Calls Tryz.prog 122 #[.complex .f64 a b, .complex .f64 c d] w fun e w' => e = .returned (.complex .f64 x y) ∧ w' = w := by
  have r1 := fun w => run_float_arith (P := Tryz.prog) (w := w) .mul 30 .f64 _ _ _ h1
  have r2 := fun w => run_float_arith (P := Tryz.prog) (w := w) .mul 30 .f64 _ _ _ h2
  have r3 := fun w => run_float_arith (P := Tryz.prog) (w := w) .mul 30 .f64 _ _ _ h3
  have r4 := fun w => run_float_arith (P := Tryz.prog) (w := w) .mul 30 .f64 _ _ _ h4
  have r5 := fun w => run_float_arith (P := Tryz.prog) (w := w) .sub 30 .f64 _ _ _ h5
  have r6 := fun w => run_float_arith (P := Tryz.prog) (w := w) .add 30 .f64 _ _ _ h6
  clear h1 h2 h3 h4 h5 h6
  go_enter Tryz.func122, Tryz.ntmps122
  go_wp2
  go_ret
  exact ⟨rfl, rfl⟩
set_option maxRecDepth 100000 in
theorem parts_Add {a b c d x y : Nat} (w : World) (h5 : floatBits .add .f64 a c = some x) (h6 : floatBits .add .f64 b d = some y) :
    Calls Tryz.prog 54 #[.complex .f64 a b, .complex .f64 c d] w fun e w' => e = .returned (.complex .f64 x y) ∧ w' = w := by
  have r5 := fun w => run_float_arith (P := Tryz.prog) (w := w) .add 30 .f64 _ _ _ h5
  have r6 := fun w => run_float_arith (P := Tryz.prog) (w := w) .add 30 .f64 _ _ _ h6
  clear h5 h6
  go_enter Tryz.func54, Tryz.ntmps54
  go_wp2
  go_ret
  exact ⟨rfl, rfl⟩
set_option maxRecDepth 100000 in
theorem ref07_Add {a b c d x y : Nat} (w : World) (h5 : floatBits .add .f64 a c = some x) (h6 : floatBits .add .f64 b d = some y) :
    Calls Tryz.prog 56 #[.complex .f64 a b, .complex .f64 c d] w fun e w' => e = .returned (.complex .f64 x y) ∧ w' = w := by
  have r5 := fun w => run_float_arith (P := Tryz.prog) (w := w) .add 30 .f64 _ _ _ h5
  have r6 := fun w => run_float_arith (P := Tryz.prog) (w := w) .add 30 .f64 _ _ _ h6
  clear h5 h6
  go_enter Tryz.func56, Tryz.ntmps56
  go_wp2
  go_ret
  exact ⟨rfl, rfl⟩
end Go.Proofs.YtcbkijeonilcjaaGreat

/- math.Inf, math.Copysign. -/
namespace Go.Proofs.YtcbkijeonilcjaaGreat
open Go.RowKit Ieee

attribute [local go_sem] run_bits run_frombits
set_option maxRecDepth 100000 in
theorem math_Inf (w : World) :
    Calls Tryz.prog 199 #[.int .i64 1] w fun e w' => e = .returned (.float .f64 9218868437227405312) ∧ w' = w := by
  go_enter Tryz.func199, Tryz.ntmps199
  go_wp2
  go_ret
  exact ⟨rfl, rfl⟩
set_option maxRecDepth 100000 in
theorem math_Copysign_pos {x y : Nat} (w : World) (hx : x < 9223372036854775808) (hy : y < 9223372036854775808) :
    Calls Tryz.prog 138 #[.float .f64 x, .float .f64 y] w fun e w' => e = .returned (.float .f64 x) ∧ w' = w := by
  have b1 : bits .andNot .u64 (x : Int) 9223372036854775808 = (x : Int) := by rw [andNot_sign (by omega), Nat.mod_eq_of_lt hx]
  have b2 : bits .and .u64 (y : Int) 9223372036854775808 = 0 := by
    refine (u64_and_nat y 9223372036854775808 (by omega) (by decide)).trans ?_
    have e : y &&& 9223372036854775808 = 0 := by
      rw [show (9223372036854775808 : Nat) = 2 ^ 63 from by decide]
      apply Nat.eq_of_testBit_eq
      intro i
      rw [Nat.testBit_and, Nat.testBit_two_pow, Nat.zero_testBit]
      by_cases hi : 63 = i
      · subst hi
        rw [Nat.testBit_lt_two_pow (by rw [show (2 : Nat) ^ 63 = 9223372036854775808 from by decide]; exact hy)]; rfl
      · simp [hi]
    rw [e]; rfl
  have b3 : bits .or .u64 (x : Int) 0 = (x : Int) := by
    refine (u64_or_nat x 0 (by omega) (by decide)).trans ?_
    rw [Nat.or_zero]
  go_enter Tryz.func138, Tryz.ntmps138
  go_wp2
  go_ret
  exact ⟨rfl, rfl⟩
theorem read_inf : double.read 9218868437227405312 = .infinity false := by
  have := read_word false (r := 9218868437227405312) (by decide)
  rw [word_false, if_neg (by decide), if_neg (by decide), if_pos rfl] at this
  exact this
theorem order_inf {x : Nat} {s : Bool} {a : Rat} (h : Num x s a) : double.order x 9218868437227405312 = some .lt ∧ double.order 9218868437227405312 x = some .gt := by
  obtain ⟨_, m, e, hr, _, _⟩ := h
  unfold Format.order
  rw [hr, read_inf]
  exact ⟨rfl, rfl⟩
theorem order_infinf : double.order 9218868437227405312 9218868437227405312 = some .eq := by
  unfold Format.order
  rw [read_inf]
  rfl
theorem math_IsNaN_inf (w : World) : Calls Tryz.prog 136 #[.float .f64 9218868437227405312] w fun e w' => e = .returned (.bool false) ∧ w' = w := by
  refine (math_IsNaN 9218868437227405312 w).mono ?_
  rintro e w' ⟨rfl, rfl⟩
  exact ⟨ret_bool (by show (double.order 9218868437227405312 9218868437227405312 != some Ordering.eq) = false; rw [order_infinf]; rfl), rfl⟩
set_option maxRecDepth 100000 in
theorem math_Nextafter_pos {x : Nat} {a : Rat} (w : World) (h : Num x false a) (ha : 0 < a) (hx : x < 9218868437227405312) :
    Calls Tryz.prog 66 #[.float .f64 x, .float .f64 9218868437227405312] w fun e w' => e = .returned (.float .f64 (x + 1)) ∧ w' = w := by
  have e1 : (FloatKind.f64.format.order x 9218868437227405312 == some Ordering.eq) = false := by
    show (double.order x 9218868437227405312 == some Ordering.eq) = false
    rw [(order_inf h).1]; rfl
  have e2 : (FloatKind.f64.format.order 9218868437227405312 x == some Ordering.gt) = true := by
    show (double.order 9218868437227405312 x == some Ordering.gt) = true
    rw [(order_inf h).2]; rfl
  have ho : double.order x 0 = some .gt := by
    rw [order_num h num_zero]
    show some (if a < 0 then Ordering.lt else if a = 0 then Ordering.eq else Ordering.gt) = _
    rw [if_neg (by grind), if_neg (by grind)]
  have e3 : (FloatKind.f64.format.order x 0 == some Ordering.eq) = false := by
    show (double.order x 0 == some Ordering.eq) = false
    rw [ho]; rfl
  have e4 : (FloatKind.f64.format.order x 0 == some Ordering.gt) = true := by
    show (double.order x 0 == some Ordering.gt) = true
    rw [ho]; rfl
  have HN := Lib.hid (fun w => math_IsNaN_num h w)
  have HI := Lib.hid math_IsNaN_inf
  clear ho ha h
  go_enter Tryz.func66, Tryz.ntmps66
  go_wp2_with (first | (go_at_call 136; refine (HN.out _).mono ?_; rintro e w' ⟨rfl, rfl⟩) | (go_at_call 136; refine (HI.out _).mono ?_; rintro e w' ⟨rfl, rfl⟩))
  all_goals (go_ret; exact ⟨ret_val (by congr 1), rfl⟩)
set_option maxRecDepth 100000 in
theorem math_Nextafter_zero (w : World) :
    Calls Tryz.prog 66 #[.float .f64 0, .float .f64 9218868437227405312] w fun e w' => e = .returned (.float .f64 1) ∧ w' = w := by
  have e1 : (FloatKind.f64.format.order 0 9218868437227405312 == some Ordering.eq) = false := by
    show (double.order 0 9218868437227405312 == some Ordering.eq) = false
    rw [(order_inf num_zero).1]; rfl
  have e3 : (FloatKind.f64.format.order 0 0 == some Ordering.eq) = true := by
    show (double.order 0 0 == some Ordering.eq) = true
    rw [order_self num_zero]; rfl
  have HN := Lib.hid (fun w => math_IsNaN_num num_zero w)
  have HI := Lib.hid math_IsNaN_inf
  have HC := Lib.hid (fun w => math_Copysign_pos (x := 1) (y := 9218868437227405312) w (by decide) (by decide))
  go_enter Tryz.func66, Tryz.ntmps66
  go_wp2_with (first | (go_at_call 136; refine (HN.out _).mono ?_; rintro e w' ⟨rfl, rfl⟩) | (go_at_call 136; refine (HI.out _).mono ?_; rintro e w' ⟨rfl, rfl⟩) | (go_at_call 138; refine (HC.out _).mono ?_; rintro e w' ⟨rfl, rfl⟩))
  all_goals (go_ret; exact ⟨rfl, rfl⟩)
end Go.Proofs.YtcbkijeonilcjaaGreat

/- real.finite, real.Next. -/
namespace Go.Proofs.YtcbkijeonilcjaaGreat
open Go.RowKit Ieee

set_option maxRecDepth 100000 in
theorem real_finite {x : Nat} {s : Bool} {a : Rat} (h : Num x s a) (w : World) :
    Calls Tryz.prog 72 #[.float .f64 x] w fun e w' => e = .returned (.bool true) ∧ w' = w := by
  have HN := Lib.hid (fun w => math_IsNaN_num h w)
  have HI := Lib.hid (fun w => math_IsInf h w)
  clear h
  go_enter Tryz.func72, Tryz.ntmps72
  go_wp2_with (first | (go_at_call 136; refine (HN.out _).mono ?_; rintro e w' ⟨rfl, rfl⟩) | (go_at_call 146; refine (HI.out _).mono ?_; rintro e w' ⟨rfl, rfl⟩))
  go_ret
  exact ⟨rfl, rfl⟩
/-- a float of its own worth and nothing -/
theorem add_zero {b : Nat} {a : Rat} (ha : 0 < a) (h : Num b false a) : floatBits .add .f64 b 0 = some b := by
  have hx := h
  obtain ⟨_, m, i, h1, h2, h3⟩ := h
  obtain ⟨_, n, j, g1, g2, g3⟩ := num_zero
  have hi : i = min i j + ((i - min i j).toNat : Nat) := by omega
  have hj : j = min i j + ((j - min i j).toNat : Nat) := by omega
  have e1 := signed_rat false m (i - min i j).toNat (min i j)
  have e2 := signed_rat false n (j - min i j).toNat (min i j)
  rw [← hi, h3] at e1
  rw [← hj, g3] at e2
  obtain ⟨T, hT⟩ : ∃ T, signed false m (i - min i j).toNat + signed false n (j - min i j).toNat = T := ⟨_, rfl⟩
  have e3 : (T : Rat) * p2 (min i j) = a := by
    rw [← hT, Rat.intCast_add, Rat.add_mul, e1, e2]
    show a + 0 = a
    rw [Rat.add_zero]
  have hT0 : 0 ≤ T := by
    rw [← hT]; unfold signed
    exact Int.add_nonneg (Int.natCast_nonneg _) (Int.natCast_nonneg _)
  have hTn : T ≠ 0 := by
    intro hz
    rw [hz, show ((0 : Int) : Rat) = 0 from rfl, Rat.zero_mul] at e3
    rw [← e3] at ha
    exact absurd ha Rat.lt_irrefl
  have hN : ((T.natAbs : Nat) : Rat) * p2 (min i j) = a := by
    rw [natAbs_rat, if_neg (by omega)]; exact e3
  rw [← hN] at hx
  have hq := nearest_exact (mag := T.natAbs) (place := min i j) (by omega) hx
  show Format.add double b 0 = _
  unfold Format.add
  rw [h1, g1]
  simp only [Datum.sum, hT, Option.map_some, Format.write]
  rw [if_neg hTn, decide_eq_false (by omega), hq]
set_option maxRecDepth 100000 in
theorem real_Next_pos {x : Nat} {a a' : Rat} (w : World) (h : Num x false a) (ha : 0 < a) (hx : x < 9218868437227405311) (h' : Num (x + 1) false a') (ha' : 0 < a') (hne : a ≠ 9007199254740991 * p2 971) :
    Calls Tryz.prog 114 #[.float .f64 x] w fun e w' => e = .returned (.tuple #[.float .f64 (x + 1), .int .i64 0]) ∧ w' = w := by
  have e1 : (FloatKind.f64.format.order x 9218868437227405311 == some Ordering.eq) = false := by
    show (double.order x 9218868437227405311 == some Ordering.eq) = false
    rw [order_num h num_greatest]
    show (some (if a < 9007199254740991 * p2 971 then Ordering.lt else if a = 9007199254740991 * p2 971 then Ordering.eq else Ordering.gt) == some Ordering.eq) = false
    rw [if_neg hne]
    split <;> rfl
  have hadd := fun w => run_float_arith (P := Tryz.prog) (w := w) .add 30 .f64 _ _ _ (add_zero ha' h')
  have HF := Lib.hid (fun w => real_finite h w)
  have HI := Lib.hid math_Inf
  have HN := Lib.hid (fun w => math_Nextafter_pos w h ha (by omega))
  clear h h' ha ha' hne
  go_enter Tryz.func114, Tryz.ntmps114
  go_wp2_with (first | (go_at_call 72; refine (HF.out _).mono ?_; rintro e w' ⟨rfl, rfl⟩) | (go_at_call 199; refine (HI.out _).mono ?_; rintro e w' ⟨rfl, rfl⟩) | (go_at_call 66; refine (HN.out _).mono ?_; rintro e w' ⟨rfl, rfl⟩))
  go_ret2
  exact ⟨rfl, rfl⟩
end Go.Proofs.YtcbkijeonilcjaaGreat
