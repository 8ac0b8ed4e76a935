/- real.Next of what is not below 0; the reference's Next. -/
import Derived.Test.YtcbkijeonilcjaaGreatHC27
import Derived.Test.YtcbkijeonilcjaaGreatHC35
import Derived.Test.YtcbkijeonilcjaaGreatHC36
import Derived.Test.YtcbkijeonilcjaaGreatHC38
namespace Go.Proofs.YtcbkijeonilcjaaGreat
open Go.RowKit Ieee

attribute [local go_sem] run_bits run_frombits
theorem num_one : Num 1 false (p2 (-1074)) := by
  have h := rung_num false (L := 0) (k := 1) (by omega) (.inl rfl) (by omega)
  rw [word_false] at h
  have e : ((1 : Nat) : Rat) * p2 (((0 : Nat) : Int) - 1074) = p2 (-1074) := by
    rw [show ((1 : Nat) : Rat) = 1 from rfl, Rat.one_mul]; rfl
  rw [e] at h
  exact h
set_option maxRecDepth 100000 in
theorem real_Next_zero (w : World) :
    Calls Tryz.prog 114 #[.float .f64 0] w fun e w' => e = .returned (.tuple #[.float .f64 1, .int .i64 0]) ∧ w' = w := by
  have e1 : (FloatKind.f64.format.order 0 9218868437227405311 == some Ordering.eq) = false := by
    show (double.order 0 9218868437227405311 == some Ordering.eq) = false
    rw [order_num num_zero num_greatest]
    show (some (if (0 : Rat) < 9007199254740991 * p2 971 then Ordering.lt else if (0 : Rat) = 9007199254740991 * p2 971 then Ordering.eq else Ordering.gt) == some Ordering.eq) = false
    have := p2_pos 971
    rw [if_pos (by grind)]
    rfl
  have hadd := fun w => run_float_arith (P := Tryz.prog) (w := w) .add 30 .f64 _ _ _ (add_zero (p2_pos _) num_one)
  have HF := Lib.hid (fun w => real_finite num_zero w)
  have HI := Lib.hid math_Inf
  have HN := Lib.hid math_Nextafter_zero
  go_enter Tryz.func114, Tryz.ntmps114
  go_wp2_with (first | (go_at_call 72; refine (HF.out _).mono ?_; rintro e w' ⟨rfl, rfl⟩) | (go_at_call 199; refine (HI.out _).mono ?_; rintro e w' ⟨rfl, rfl⟩) | (go_at_call 66; refine (HN.out _).mono ?_; rintro e w' ⟨rfl, rfl⟩))
  go_ret2
  exact ⟨rfl, rfl⟩
theorem real_Next {x : Nat} {a : Rat} (w : World) (h : Num x false a) (hb : a ≤ p2 1000) :
    Calls Tryz.prog 114 #[.float .f64 x] w fun e w' => e = .returned (.tuple #[.float .f64 (x + 1), .int .i64 0]) ∧ w' = w := by
  by_cases h0 : a = 0
  · subst h0
    obtain rfl := num_eq_zero h
    exact real_Next_zero w
  · obtain ⟨q1, q2, a', q3, q4⟩ := num_next h hb
    have ha := h.nonneg
    exact real_Next_pos w h (by grind) q1 q3 (by grind) q2
theorem and_exp {x : Nat} (hx : x < 18446744073709551616) : bits .and .u64 ((x : Int) / 4503599627370496) 2047 = ((x / 4503599627370496 % 2048 : Nat) : Int) := by
  have h := u64_and_nat (x / 4503599627370496) 2047 (by omega) (by decide)
  rw [show (2047 : Nat) = 2 ^ 11 - 1 from by decide, Nat.and_two_pow_sub_one_eq_mod] at h
  rw [show ((x : Int) / 4503599627370496) = ((x / 4503599627370496 : Nat) : Int) from by omega]
  exact h
theorem exp_num {x : Nat} {s : Bool} {a : Rat} (h : Num x s a) : x / 4503599627370496 % 2048 < 2047 := by
  have h1 := (num_rung h).1
  omega
set_option maxRecDepth 100000 in
theorem ref06_Finite {x : Nat} {s : Bool} {a : Rat} (w : World) (h : Num x s a) :
    Calls Tryz.prog 275 #[.float .f64 x] w fun e w' => e = .returned (.bool true) ∧ w' = w := by
  have b1 := and_exp h.1
  have b2 := exp_num h
  have b3 := h.1
  clear h
  generalize x / 4503599627370496 % 2048 = n at *
  have e1 : ((n : Int) != 2047) = true := by simp; omega
  clear b2
  go_enter Tryz.func275, Tryz.ntmps275
  go_wp2
  go_ret
  exact ⟨rfl, rfl⟩
set_option maxRecDepth 100000 in
theorem ref06_next {x : Nat} (w : World) (h : x < 9218868437227405311) :
    Calls Tryz.prog 276 #[.float .f64 x] w fun e w' => e = .returned (.float .f64 (x + 1)) ∧ w' = w := by
  go_enter Tryz.func276, Tryz.ntmps276
  go_wp2
  go_ret
  exact ⟨ret_val (by congr 1), rfl⟩
set_option maxRecDepth 100000 in
theorem ref06_Next {x : Nat} {a : Rat} (w : World) (h : Num x false a) (hb : a ≤ p2 1000) :
    Calls Tryz.prog 201 #[.float .f64 x] w fun e w' => e = .returned (.tuple #[.float .f64 (x + 1), .int .i64 0]) ∧ w' = w := by
  obtain ⟨q1, q2, a', q3, q4⟩ := num_next h hb
  have HF := Lib.hid (fun w => ref06_Finite w h)
  have HG := Lib.hid (fun w => ref06_Finite w q3)
  have HN := Lib.hid (fun w => ref06_next w q1)
  have hA : x % 9223372036854775808 = x := Nat.mod_eq_of_lt (by omega)
  have HA := Lib.hid (fun w => math_Abs x w (by omega))
  rw [hA] at HA
  have ho : double.order x 0 = some (if a = 0 then Ordering.eq else Ordering.gt) := by
    rw [order_num h num_zero]
    show some (if a < 0 then Ordering.lt else if a = 0 then Ordering.eq else Ordering.gt) = _
    rw [if_neg (Rat.not_lt.2 h.nonneg)]
  clear hA h hb q1 q2 q3 q4
  by_cases h0 : a = 0
  · have e1 : (FloatKind.f64.format.order x 0 == some Ordering.gt) = false := by
      show (double.order x 0 == some Ordering.gt) = false
      rw [ho, if_pos h0]; rfl
    have e2 : (FloatKind.f64.format.order x 0 == some Ordering.eq) = true := by
      show (double.order x 0 == some Ordering.eq) = true
      rw [ho, if_pos h0]; rfl
    clear ho h0
    go_enter Tryz.func201, Tryz.ntmps201
    go_wp2_with (first | (go_at_call 113; refine (HA.out _).mono ?_; rintro e w' ⟨rfl, rfl⟩) | (go_at_call 275; (first | (with_reducible refine (HF.out _).mono ?_) | (with_reducible refine (HG.out _).mono ?_)); rintro e w' ⟨rfl, rfl⟩) | (go_at_call 276; refine (HN.out _).mono ?_; rintro e w' ⟨rfl, rfl⟩))
    go_ret2
    exact ⟨rfl, rfl⟩
  · have e1 : (FloatKind.f64.format.order x 0 == some Ordering.gt) = true := by
      show (double.order x 0 == some Ordering.gt) = true
      rw [ho, if_neg h0]; rfl
    clear ho h0
    go_enter Tryz.func201, Tryz.ntmps201
    go_wp2_with (first | (go_at_call 113; refine (HA.out _).mono ?_; rintro e w' ⟨rfl, rfl⟩) | (go_at_call 275; (first | (with_reducible refine (HF.out _).mono ?_) | (with_reducible refine (HG.out _).mono ?_)); rintro e w' ⟨rfl, rfl⟩) | (go_at_call 276; refine (HN.out _).mono ?_; rintro e w' ⟨rfl, rfl⟩))
    go_ret2
    exact ⟨rfl, rfl⟩
end Go.Proofs.YtcbkijeonilcjaaGreat

/- Nearest floats as words; the reference's product. -/
namespace Go.Proofs.YtcbkijeonilcjaaGreat
open Go.RowKit Ieee

theorem real_NearestW {v : Value} {r : Rat} (w : World) (h : RtR w v r) (hf : fits r) (hw : Wi r (p2 500)) :
    Calls Tryz.prog 111 #[v] w fun e w' => e = .returned (.tuple #[.float .f64 (flW r), .int .i64 0]) ∧ Below w.heap.size w w' := by
  obtain ⟨h1, _, _, h2⟩ := fn_flo hw (by decide) (by decide)
  refine (real_Nearest w h hf h2).mono ?_
  rintro e w' ⟨F, hF, rfl, hb⟩
  rw [h1] at hF
  injection hF with hF
  subst hF
  exact ⟨rfl, hb⟩
theorem ref06_NearestW {v : Value} {r : Rat} (w : World) (h : RtR w v r) (hf : fits r) (hw : Wi r (p2 500)) :
    Calls Tryz.prog 116 #[v] w fun e w' => e = .returned (.tuple #[.float .f64 (flW r), .int .i64 0]) ∧ Below w.heap.size w w' := by
  obtain ⟨h1, _, _, h2⟩ := fn_flo hw (by decide) (by decide)
  refine (ref06_Nearest w h hf h2).mono ?_
  rintro e w' ⟨F, hF, rfl, hb⟩
  rw [h1] at hF
  injection hF with hF
  subst hF
  exact ⟨rfl, hb⟩
theorem parts_NearestW {v : Value} {r s : Rat} (w : World) (h : GtR w v r s) (hf : fits r) (hg : fits s) (hw : Wi r (p2 500)) (hv : Wi s (p2 500)) :
    Calls Tryz.prog 112 #[v] w fun e w' => e = .returned (.tuple #[.complex .f64 (flW r) (flW s), .int .i64 0]) ∧ Below w.heap.size w w' := by
  obtain ⟨h1, _, _, h2⟩ := fn_flo hw (by decide) (by decide)
  obtain ⟨k1, _, _, k2⟩ := fn_flo hv (by decide) (by decide)
  refine (parts_Nearest w h hf hg h2 k2).mono ?_
  rintro e w' ⟨F, G, hF, hG, rfl, hb⟩
  rw [h1] at hF
  rw [k1] at hG
  injection hF with hF
  injection hG with hG
  subst hF hG
  exact ⟨rfl, hb⟩
theorem ref07_NearestW {v : Value} {r s : Rat} (w : World) (h : GtR w v r s) (hf : fits r) (hg : fits s) (hw : Wi r (p2 500)) (hv : Wi s (p2 500)) :
    Calls Tryz.prog 121 #[v] w fun e w' => e = .returned (.tuple #[.complex .f64 (flW r) (flW s), .int .i64 0]) ∧ Below w.heap.size w w' := by
  obtain ⟨h1, _, _, h2⟩ := fn_flo hw (by decide) (by decide)
  obtain ⟨k1, _, _, k2⟩ := fn_flo hv (by decide) (by decide)
  refine (ref07_Nearest w h hf hg h2 k2).mono ?_
  rintro e w' ⟨F, G, hF, hG, rfl, hb⟩
  rw [h1] at hF
  rw [k1] at hG
  injection hF with hF
  injection hG with hG
  subst hF hG
  exact ⟨rfl, hb⟩
theorem pw_fits {T : Tn} (h : T.ok) {t : Nat} (ht : t ≤ 1024) : fits (T.pw t).1 ∧ fits (T.pw t).2 := by
  obtain ⟨⟨a1, a2, a3, a4, _⟩, _⟩ := h
  obtain ⟨b1, b2⟩ := rotD_bd a1 a2 a3 a4
  obtain ⟨c1, c2⟩ := rotZ_bdd a1 a2 a3 a4
  exact cpw_fits b1 b2 c1 c2 ht
theorem pw_wi {T : Tn} (h : T.ok) (t : Nat) : Wi (T.pw t).1 (p2 500) ∧ Wi (T.pw t).2 (p2 500) := ⟨(h.pw t).1.mono (p2_mono (by decide)), (h.pw t).2.mono (p2_mono (by decide))⟩
/-- a complex fraction is read: its six cells -/
theorem GtR.six {w : World} {v : Value} {r s : Rat} (h : GtR w v r s) : ∃ A c A' c' B d B' d', v = .agg #[.bool (rneg r), .slice A (wl (rnum r)) c, .slice A' (wl r.den) c', .bool (rneg s), .slice B (wl (rnum s)) d, .slice B' (wl s.den) d'] ∧
    ∀ w', Below w.heap.size w w' → GtR w' (.agg #[.bool (rneg r), .slice A (wl (rnum r)) c, .slice A' (wl r.den) c', .bool (rneg s), .slice B (wl (rnum s)) d, .slice B' (wl s.den) d']) r s := by
  obtain ⟨vx, vy, rfl, ⟨A, c, A', c', rfl, h1, h2⟩, ⟨B, d, B', d', rfl, h3, h4⟩⟩ := h
  exact ⟨A, c, A', c', B, d, B', d', rfl, fun w' hb => ⟨_, _, rfl, ⟨A, c, A', c', rfl, h1.below hb, h2.below hb⟩, ⟨B, d, B', d', rfl, h3.below hb, h4.below hb⟩⟩⟩
/-- a constituent that may be, its nine cells as one value -/
theorem TnC.agg {w : World} {b o : Nat} {N : Tn} (h : TnC w b o N) : ∃ nm A1 c1 A1' c1' A2 c2 A2' c2',
    (w.cell? ⟨b, o, none⟩ = some (.string nm) ∧ w.cell? ⟨b, o + 1, none⟩ = some (.int .i32 N.far) ∧ w.cell? ⟨b, o + 2, none⟩ = some (.int .i32 N.near) ∧ w.cell? ⟨b, o + 3, none⟩ = some (.bool (rneg N.re)) ∧ w.cell? ⟨b, o + 4, none⟩ = some (.slice A1 (wl (rnum N.re)) c1) ∧ w.cell? ⟨b, o + 5, none⟩ = some (.slice A1' (wl N.re.den) c1') ∧ w.cell? ⟨b, o + 6, none⟩ = some (.bool (rneg N.im)) ∧ w.cell? ⟨b, o + 7, none⟩ = some (.slice A2 (wl (rnum N.im)) c2) ∧ w.cell? ⟨b, o + 8, none⟩ = some (.slice A2' (wl N.im.den) c2')) ∧
    (∀ w', Below w.heap.size w w' → GtR w' (.agg #[.bool (rneg N.re), .slice A1 (wl (rnum N.re)) c1, .slice A1' (wl N.re.den) c1', .bool (rneg N.im), .slice A2 (wl (rnum N.im)) c2, .slice A2' (wl N.im.den) c2']) N.re N.im) := by
  obtain ⟨nm, A1, c1, A1', c1', A2, c2, A2', c2', h0, ⟨r1, r2⟩, r3, r4⟩ := h
  exact ⟨nm, A1, c1, A1', c1', A2, c2, A2', c2', h0, fun w' hb => ⟨_, _, rfl, ⟨_, _, _, _, rfl, r1.below hb, r2.below hb⟩, ⟨_, _, _, _, rfl, r3.below hb, r4.below hb⟩⟩⟩
set_option maxRecDepth 100000 in
set_option maxHeartbeats 1000000 in
theorem ref16_product {T : Tn} {nm : ByteArray} {A1 A1' A2 A2' : Option Addr} {n1 c1 n1' c1' n2 c2 n2' c2' : Nat} {g1 g2 : Bool} (t : Nat) (w : World) (hT : T.ok) (ht : t ≤ 1024)
    (hR : ∀ w', Below w.heap.size w w' → GtR w' (.agg #[.bool g1, .slice A1 n1 c1, .slice A1' n1' c1', .bool g2, .slice A2 n2 c2, .slice A2' n2' c2']) T.re T.im) :
    Calls Tryz.prog 57 #[.agg #[.string nm, .int .i32 T.far, .int .i32 T.near, .bool g1, .slice A1 n1 c1, .slice A1' n1' c1', .bool g2, .slice A2 n2 c2, .slice A2' n2' c2'], .int .i64 t] w fun e w' => e = .returned (.complex .f64 (T.pr t) (T.pi t)) ∧ Below w.heap.size w w' := by
  have HT := Lib.hid hT
  have HP := Lib.hid (fun w' => ref05_Power T.far T.near t w' hT.1 ht)
  have HPF := Lib.hid (And.intro (pw_fits hT ht) (pw_wi hT t))
  have HR := Lib.hid hR
  have HPR := Lib.hid (hT.pr t)
  clear hT hR
  have ht1 : (t : Int) ≤ 1024 := by omega
  obtain ⟨W0, hW0⟩ : ∃ x, w.alloc (.cells #[.string nm, .int .i32 T.far, .int .i32 T.near, .bool g1, .slice A1 n1 c1, .slice A1' n1' c1', .bool g2, .slice A2 n2 c2, .slice A2' n2' c2'] 85) = x := ⟨_, rfl⟩
  have hb0 : Below w.heap.size w W0 := by rw [← hW0]; exact (Below.refl _ _).alloc (Nat.le_refl _) _
  have hk : W0.heap[w.heap.size]? = some (.cells #[.string nm, .int .i32 T.far, .int .i32 T.near, .bool g1, .slice A1 n1 c1, .slice A1' n1' c1', .bool g2, .slice A2 n2 c2, .slice A2' n2' c2'] 85) := by rw [← hW0]; exact heap_alloc_new w _
  have HA := Lib.hid (And.intro hb0 hk)
  obtain ⟨z0, z1, z2, z3, z4, z5, z6, z7, z8⟩ := cell9 hk
  clear hb0 hk
  go_enter Tryz.func57, Tryz.ntmps57
  go_wp2_with fail
  have HW0 := Lib.hid hW0
  clear hW0
  refine (HP.out W0).mono ?_
  rintro e w1 ⟨v, rfl, hG, hB1⟩
  obtain ⟨P1, e1, P1', e1', P2, e2, P2', e2', rfl, hG1⟩ := hG.rd.six
  obtain ⟨W2, hW2⟩ : ∃ x, w1.alloc (.cells #[.bool (rneg (T.pw t).1), .slice P1 (wl (rnum (T.pw t).1)) e1, .slice P1' (wl (T.pw t).1.den) e1', .bool (rneg (T.pw t).2), .slice P2 (wl (rnum (T.pw t).2)) e2, .slice P2' (wl (T.pw t).2.den) e2'] 83) = x := ⟨_, rfl⟩
  have hb2 : Below w1.heap.size w1 W2 := by rw [← hW2]; exact (Below.refl _ _).alloc (Nat.le_refl _) _
  have hk2 : W2.heap[w1.heap.size]? = some (.cells #[.bool (rneg (T.pw t).1), .slice P1 (wl (rnum (T.pw t).1)) e1, .slice P1' (wl (T.pw t).1.den) e1', .bool (rneg (T.pw t).2), .slice P2 (wl (rnum (T.pw t).2)) e2, .slice P2' (wl (T.pw t).2.den) e2'] 83) := by rw [← hW2]; exact heap_alloc_new w1 _
  have hl1 : w.heap.size < w1.heap.size := heap_lt (blk_below hB1 HA.out.2)
  have HB2 := Lib.hid (And.intro (bel_step (bel_step HA.out.1 hB1) hb2) (And.intro (blk_below hb2 (blk_below hB1 HA.out.2)) (hG1 W2 hb2)))
  obtain ⟨⟨y0, y1, y2⟩, y3, y4, y5⟩ := cell6 hk2
  clear hb2 hk2 hG hG1 hB1 z0 z1 z2 z3 z4 z5 z6 z7 z8
  rw [show cpw (rotZ T.far T.near) t = T.pw t from rfl]
  go_upto_region 2 with fail
  have HW2 := Lib.hid hW2
  clear hW2
  go_wp2_with fail
  refine (ref07_NearestW W2 HB2.out.2.2 HPF.out.1.1 HPF.out.1.2 HPF.out.2.1 HPF.out.2.2).mono ?_
  rintro e w3 ⟨rfl, hB3⟩
  have HB3 := Lib.hid (And.intro (bel_step HB2.out.1 hB3) (blk_below hB3 HB2.out.2.1))
  clear hB3 y0 y1 y2 y3 y4 y5
  obtain ⟨z0, z1, z2, z3, z4, z5, z6, z7, z8⟩ := cell9 HB3.out.2
  go_wp2_with fail
  refine (ref07_NearestW w3 (HR.out w3 HB3.out.1) HT.out.2.1.1 HT.out.2.1.2 HT.out.2.2.1 HT.out.2.2.2).mono ?_
  rintro e w4 ⟨rfl, hB4⟩
  have HB4 := Lib.hid (bel_step HB3.out.1 hB4)
  clear hB4 z0 z1 z2 z3 z4 z5 z6 z7 z8
  go_wp2_with fail
  refine (ref07_Mul _ HPR.out.m1 HPR.out.m2 HPR.out.m3 HPR.out.m4 HPR.out.re HPR.out.im).mono ?_
  rintro e w5 ⟨rfl, rfl⟩
  go_wp2_with fail
  go_ret
  exact ⟨rfl, HB4.out⟩
end Go.Proofs.YtcbkijeonilcjaaGreat
