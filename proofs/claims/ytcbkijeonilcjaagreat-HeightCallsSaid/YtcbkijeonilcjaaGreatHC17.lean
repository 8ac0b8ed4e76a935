/- Package gauss: Check, Int. -/
import Derived.Test.YtcbkijeonilcjaaGreatHC16
namespace Go.Proofs.YtcbkijeonilcjaaGreat
open Go.RowKit

set_option maxRecDepth 100000 in
theorem gauss_Check {g1 g2 : Bool} {A1 A1' A2 A2' : Option Addr} {n1 n1' n2 n2' c1 c1' c2 c2' : Nat} {l1 l1' l2 l2' : List Nat} (w : World)
    (h1 : Rd w A1 n1 c1 l1) (h1' : Rd w A1' n1' c1' l1') (h2 : Rd w A2 n2 c2 l2) (h2' : Rd w A2' n2' c2' l2') :
    Calls Tryz.prog 198 #[.agg #[.bool g1, .slice A1 n1 c1, .slice A1' n1' c1', .bool g2, .slice A2 n2 c2, .slice A2' n2' c2']] w fun e1 w' => e1 = .returned (.int .i64 (chk2 (chkR g1 l1 l1') (chkR g2 l2 l2'))) ∧ Below w.heap.size w w' := by
  obtain ⟨W0, hW0⟩ : ∃ x, (w.alloc (.cells #[.bool g1, .slice A1 n1 c1, .slice A1' n1' c1', .bool g2, .slice A2 n2 c2, .slice A2' n2' c2'] 83)).alloc (.cells #[.bool g1, .slice A1 n1 c1, .slice A1' n1' c1', .bool g2, .slice A2 n2 c2, .slice A2' n2' c2'] 83) = x := ⟨_, rfl⟩
  have hb0 : Below w.heap.size w W0 := by rw [← hW0]; exact ((Below.refl _ _).alloc (Nat.le_refl _) _).alloc (by simp) _
  have k1 : W0.heap[w.heap.size + 1]? = some (.cells #[.bool g1, .slice A1 n1 c1, .slice A1' n1' c1', .bool g2, .slice A2 n2 c2, .slice A2' n2' c2'] 83 (0, 0)) := by
    rw [← hW0]; simpa using heap_alloc_new (w.alloc _) _
  have HA := Lib.hid (And.intro hb0 (And.intro k1 (And.intro (h1.below hb0) (And.intro (h1'.below hb0) (And.intro (h2.below hb0) (h2'.below hb0))))))
  clear hb0 k1 h1 h1' h2 h2'
  go_enter Tryz.func198, Tryz.ntmps198
  go_wp2_with fail
  have HW0 := Lib.hid hW0
  clear hW0
  refine (gauss_asked1 _ HA.out.2.1 HA.out.2.2.1 HA.out.2.2.2.1 HA.out.2.2.2.2.1 HA.out.2.2.2.2.2).mono ?_
  rintro e1 w1 ⟨rfl, hW1, hB1⟩
  obtain ⟨q0, q1⟩ := hW1.cell
  have HB := Lib.hid (HA.out.1.trans (hB1.mono HA.out.1.size))
  clear hW1 hB1
  go_wp2_with fail
  go_ret
  exact ⟨rfl, HB.out⟩

theorem fits_small (n : Int) (h1 : -17592186044416 ≤ n) (h2 : n ≤ 17592186044416) : fits (mkRat n 1) ∧ mkRat n 1 = (n : Rat) := by
  have h : mkRat n 1 = (n : Rat) := by rw [Rat.mkRat_eq_div]; grind
  refine ⟨?_, h⟩
  rw [h]
  refine ⟨?_, by rw [Rat.den_intCast]; exact Nat.le_trans ((@wl_le 1 1).2 (by omega)) (by omega)⟩
  have : wl (rnum (n : Rat)) ≤ 2 := (@wl_le _ 2).2 (by unfold rnum; rw [Rat.num_intCast]; omega)
  omega

set_option maxRecDepth 100000 in
/-- two whole numbers -/
theorem gauss_Int (n m : Int) (w : World) (h1 : -17592186044416 ≤ n) (h2 : n ≤ 17592186044416) (h3 : -17592186044416 ≤ m) (h4 : m ≤ 17592186044416) :
    Calls Tryz.prog 203 #[.int .i64 n, .int .i64 m] w fun e1 w' => ∃ v, e1 = .returned v ∧ GtO w' w.heap.size w'.heap.size v (n : Rat) (m : Rat) ∧ Below w.heap.size w w' := by
  have HN := Lib.hid (And.intro (And.intro h1 h2) (And.intro h3 h4))
  have HF := Lib.hid (And.intro (fits_small n h1 h2).2 (fits_small m h3 h4).2)
  clear h1 h2 h3 h4
  have hb0 : Below w.heap.size w (w.alloc (.cells #[.bool false, .slice none 0 0, .slice none 0 0, .bool false, .slice none 0 0, .slice none 0 0] 83)) := (Below.refl _ _).alloc (Nat.le_refl _) _
  have HB0 := Lib.hid hb0
  clear hb0
  go_enter Tryz.func203, Tryz.ntmps203
  go_wp2_with fail
  refine (ratio_Small n 1 _ HN.out.1.1 HN.out.1.2 (by omega) (by omega)).mono ?_
  rintro e1 w1 ⟨v1, rfl, hO1, hB1⟩
  obtain ⟨gx, Ax, nx, cx, Ax', nx', cx', rfl⟩ := hO1.agg
  have hr1 : w1.heap[w.heap.size]? = some (.cells #[.bool false, .slice none 0 0, .slice none 0 0, .bool false, .slice none 0 0, .slice none 0 0] 83) := by
    rw [hB1.block _ (by simp)]; exact heap_alloc_new w _
  obtain ⟨w1', hw1'⟩ : ∃ x, w1.alloc (.cells #[.bool gx, .slice Ax nx cx, .slice Ax' nx' cx'] 24) = x := ⟨_, rfl⟩
  have hal : Below w1.heap.size w1 w1' := by rw [← hw1']; exact (Below.refl _ _).alloc (Nat.le_refl _) _
  have hbx : w1'.heap[w1.heap.size]? = some (rtO gx Ax nx cx Ax' nx' cx') := by rw [← hw1']; exact heap_alloc_new w1 _
  have hlt : w.heap.size < w1.heap.size := by have := hB1.size; simp at this; omega
  have hsz : w1'.heap.size = w1.heap.size + 1 := by rw [← hw1']; simp
  have HA1 := Lib.hid (And.intro (hO1.below hal) (And.intro ((HB0.out.trans (hB1.mono HB0.out.size)).trans (hal.mono (Nat.le_of_lt hlt))) (And.intro ((hal.block _ (heap_lt hr1)).trans hr1) (And.intro hbx (And.intro hlt hsz)))))
  clear hO1 hB1 hr1 hal hbx hlt hsz
  go_wp2_with fail
  have HW1 := Lib.hid hw1'
  clear hw1'
  refine (ratio_Small m 1 _ HN.out.2.1 HN.out.2.2 (by omega) (by omega)).mono ?_
  rintro e1 w2 ⟨v2, rfl, hO2, hB2⟩
  obtain ⟨gy, Ay, ny, cy, Ay', ny', cy', rfl⟩ := hO2.agg
  obtain ⟨w2', hw2'⟩ : ∃ x, w2.alloc (.cells #[.bool gy, .slice Ay ny cy, .slice Ay' ny' cy'] 24) = x := ⟨_, rfl⟩
  have hal : Below w2.heap.size w2 w2' := by rw [← hw2']; exact (Below.refl _ _).alloc (Nat.le_refl _) _
  have hby : w2'.heap[w2.heap.size]? = some (rtO gy Ay ny cy Ay' ny' cy') := by rw [← hw2']; exact heap_alloc_new w2 _
  have hs2 := hB2.size
  have hkx : w2'.heap[w1.heap.size]? = some (rtO gx Ax nx cx Ax' nx' cx') := by
    have h := (hB2.block _ (heap_lt HA1.out.2.2.2.1)).trans HA1.out.2.2.2.1
    rw [hal.block _ (heap_lt h)]; exact h
  have hkr : w2'.heap[w.heap.size]? = some (.cells #[.bool false, .slice none 0 0, .slice none 0 0, .bool false, .slice none 0 0, .slice none 0 0] 83) := by
    have h := (hB2.block _ (heap_lt HA1.out.2.2.1)).trans HA1.out.2.2.1
    rw [hal.block _ (heap_lt h)]; exact h
  obtain ⟨x0, x1, x2, _, _, _⟩ := cell3 hkx
  obtain ⟨y0, y1, y2, _, _, _⟩ := cell3 hby
  obtain ⟨⟨r0, r1, r2⟩, r3, r4, r5⟩ := cell6 hkr
  obtain ⟨s0, s1, s2, s3, s4, s5⟩ := free6 hkr
  have HF2 : Hid (RtO 116 w2' (w.heap.size + 1) w1.heap.size (.agg #[.bool gx, .slice Ax nx cx, .slice Ax' nx' cx']) (mkRat n 1) ∧ RtO 116 w2' w1.heap.size w2.heap.size (.agg #[.bool gy, .slice Ay ny cy, .slice Ay' ny' cy']) (mkRat m 1) ∧ Below w.heap.size w w2' ∧ w.heap.size + 1 ≤ w1.heap.size ∧ w1.heap.size ≤ w2.heap.size ∧ w2.heap.size ≤ w2'.heap.size) := by
    have := HA1.out.2.2.2.2
    refine ⟨((HA1.out.1.below hB2).below hal).mono (by simp) (Nat.le_refl _), (hO2.below hal).mono (by omega) (Nat.le_refl _), (HA1.out.2.1.trans (hB2.mono HA1.out.2.1.size)).trans (hal.mono (by omega)), by omega, by omega, hal.size⟩
  clear hO2 hB2 hal hby hkx hkr hs2
  go_wp2_with fail
  have HW2 := Lib.hid hw2'
  clear hw2'
  exact bodyPost_ret (v := .agg #[.bool gx, .slice Ax nx cx, .slice Ax' nx' cx', .bool gy, .slice Ay ny cy, .slice Ay' ny' cy']) (by simp [results, Tryz.results203, go_sem, r0, r1, r2, r3, r4, r5]) rfl
    ⟨.agg #[.bool gx, .slice Ax nx cx, .slice Ax' nx' cx', .bool gy, .slice Ay ny cy, .slice Ay' ny' cy'], rfl, ⟨.agg #[.bool gx, .slice Ax nx cx, .slice Ax' nx' cx'], .agg #[.bool gy, .slice Ay ny cy, .slice Ay' ny' cy'], w1.heap.size, rfl, by have := HF2.out.2.2.2.1; omega, by have := HF2.out.2.2.2.2; simp; omega, by rw [← HF.out.1]; exact (HF2.out.1.set6 (by omega)).mono (by omega) (Nat.le_refl _), by rw [← HF.out.2]; exact (HF2.out.2.1.set6 (by have := HF2.out.2.2.2.1; omega)).mono (Nat.le_refl _) (by have := HF2.out.2.2.2.2; simp; omega)⟩, below_set6 HF2.out.2.2.1 (Nat.le_refl _) _ _ _ _ _ _⟩
end Go.Proofs.YtcbkijeonilcjaaGreat

/- Package rotor: which may be, their numbers. -/
namespace Go.Proofs.YtcbkijeonilcjaaGreat
open Go.RowKit

theorem gcd_tmod (a b : Int) : Int.gcd b (a.tmod b) = Int.gcd a b := by
  unfold Int.gcd
  rw [Int.natAbs_tmod, Nat.gcd_comm a.natAbs, Nat.gcd_rec b.natAbs a.natAbs, Nat.gcd_comm]
def comAt (a0 b0 a b : Int) : Prop := Int.gcd a b = Int.gcd a0 b0 ∧ a.natAbs ≤ 1099511627776 ∧ b.natAbs ≤ 1099511627776

theorem rotor_common (a0 b0 : Int) (w : World) (h1 : a0.natAbs ≤ 1099511627776) (h2 : b0.natAbs ≤ 1099511627776) :
    Calls Tryz.prog 277 #[.int .i64 a0, .int .i64 b0] w fun e w' => e = .returned (.int .i64 (Int.gcd a0 b0 : Nat)) ∧ Drn w w' := by
  have H0 : Hid (comAt a0 b0 a0 b0) := ⟨rfl, h1, h2⟩
  clear h1 h2
  go_enter Tryz.func277, Tryz.ntmps277
  go_wp2
  go_loopw [0, 1] (fun av bv wr => ∃ a b : Int, av = .int .i64 a ∧ bv = .int .i64 b ∧ comAt a0 b0 a b ∧ Drn w wr) (fun _ bv _ => (intOf bv).natAbs)
  case atStart => exact ⟨a0, b0, rfl, rfl, H0.out, Drn.refl _⟩
  case round =>
    obtain ⟨a, b, rfl, rfl, hC, n, rfl⟩ := hrel
    have HC := Lib.hid hC
    clear hC
    by_cases hb : b = 0
    · have e1 : (b != 0) = false := by simp [hb]
      have HE : Hid ((a.natAbs : Int) = (Int.gcd a0 b0 : Nat)) := by
        show (a.natAbs : Int) = _
        rw [← HC.out.1, hb, Int.gcd_zero_right]
      have ha := HC.out.2.1
      clear hb
      go_wp2
      go_ret
      exact ⟨ret_int (by have := HE.out; omega), drn1 _ _⟩
    · have e1 : (b != 0) = true := by simp [hb]
      have e2 : (b == 0) = false := by simp [hb]
      have HB := Lib.hid hb
      have h3 := HC.out.2.1
      have h4 := HC.out.2.2
      go_wp2
      go_quiet (fail)
      go_wp2
      go_roundw
      case measure =>
        simp only [intOf]
        rw [Int.natAbs_tmod]
        exact Nat.mod_lt _ (by have := HB.out; omega)
      case rel => exact ⟨b, a.tmod b, rfl, rfl, ⟨(gcd_tmod a b).trans HC.out.1, h4, by rw [Int.natAbs_tmod]; exact Nat.le_trans (Nat.le_of_lt (Nat.mod_lt _ (by have := HB.out; omega))) h4⟩, (by first | exact ⟨_, rfl⟩ | exact (drn1 _ _).step _ | exact ((drn1 _ _).step _).step _ | (repeat' (first | exact Drn.refl _ | apply Drn.step)))⟩

def rotOk (f n : Int) : Prop := 1 ≤ f ∧ f ≤ 1000 ∧ -1000 ≤ n ∧ n ≤ 1000 ∧ n ≠ 0 ∧ f ≠ n ∧ f ≠ -n ∧ Int.gcd f n = 1
instance (f n : Int) : Decidable (rotOk f n) := by unfold rotOk; infer_instance
/-- why a rotor may not be -/
def rotE (f n : Int) : Int := if rotOk f n then 0 else 150

set_option maxRecDepth 100000 in
set_option maxHeartbeats 1000000 in
theorem rotor_Check (f n : Int) (w : World) (h1 : f.natAbs ≤ 2147483648) (h2 : n.natAbs ≤ 2147483648) :
    Calls Tryz.prog 202 #[.agg #[.int .i32 f, .int .i32 n]] w fun e w' => e = .returned (.int .i64 (rotE f n)) ∧ Below w.heap.size w w' := by
  have HB := Lib.hid ((Below.refl w.heap.size w).alloc (Nat.le_refl _) (.cells #[.int .i32 f, .int .i32 n] 58))
  have HC := Lib.hid (rotor_common f n)
  have HI := Lib.hid (And.intro h1 h2)
  have h3 : -2147483648 ≤ n := by omega
  have h4 : n ≤ 2147483648 := by omega
  have h5 : -2147483648 ≤ f := by omega
  have h6 : f ≤ 2147483648 := by omega
  by_cases g1 : 1 ≤ f ∧ f ≤ 1000 ∧ -1000 ≤ n ∧ n ≤ 1000 ∧ n ≠ 0 ∧ f ≠ n ∧ f ≠ -n
  · obtain ⟨a1, a2, a3, a4, a5, a6, a7⟩ := g1
    have b1 : (f < 1) = False := by simp; omega
    have b2 : ((1000 : Int) < f) = False := by simp; omega
    have b3 : (n < -1000) = False := by simp; omega
    have b4 : ((1000 : Int) < n) = False := by simp; omega
    have b5 : (n == 0) = false := by simp [a5]
    have b6 : (f == n) = false := by simp [a6]
    have b7 : (f == -n) = false := by simp [a7]
    have b8 : (f = n) = False := by simp [a6]
    have b9 : (f = -n) = False := by simp [a7]
    have HG : Hid (Int.gcd f n = 1 → rotOk f n) := fun h => ⟨a1, a2, a3, a4, a5, a6, a7, h⟩
    clear a1 a2 a3 a4 a5 a6 a7 h1 h2
    go_enter Tryz.func202, Tryz.ntmps202
    go_wp2_with fail
    go_quiet (fail)
    go_wp2_with fail
    refine (HC.out _ (by have := HI.out; omega) (by have := HI.out; omega)).mono ?_
    rintro e w1 ⟨rfl, n1, rfl⟩
    by_cases hg : Int.gcd f n = 1
    · have HZ : Hid (rotE f n = 0) := by show rotE f n = 0; unfold rotE; rw [if_pos (HG.out hg)]
      have e9 : (((Int.gcd f n : Nat) : Int) != 1) = false := by rw [hg]; rfl
      clear hg
      go_wp2_with fail
      go_ret
      exact ⟨ret_int HZ.out.symm, below_drewN HB.out _⟩
    · have HZ : Hid (rotE f n = 150) := by show rotE f n = 150; unfold rotE; rw [if_neg (fun h => hg h.2.2.2.2.2.2.2)]
      have e9 : (((Int.gcd f n : Nat) : Int) != 1) = true := by simp; omega
      clear hg
      go_wp2_with fail
      go_ret
      exact ⟨ret_int HZ.out.symm, below_drewN HB.out _⟩
  · have HZ : Hid (rotE f n = 150) := by
      show rotE f n = 150
      unfold rotE; rw [if_neg]; intro h; exact g1 ⟨h.1, h.2.1, h.2.2.1, h.2.2.2.1, h.2.2.2.2.1, h.2.2.2.2.2.1, h.2.2.2.2.2.2.1⟩
    clear h1 h2
    have q1 := True.intro; have q2 := True.intro; have q3 := True.intro; have q4 := True.intro; have q5 := True.intro
    by_cases q : f < 1
    · have qe : (f < 1) = True := by simp; omega
      clear g1 q q1 q2 q3 q4 q5
      go_enter Tryz.func202, Tryz.ntmps202
      go_wp2_with fail
      go_quiet (fail)
      go_wp2_with fail
      go_ret
      exact ⟨ret_int HZ.out.symm, below_drewN HB.out _⟩
    have qn : (f < 1) = False := by simp; omega
    have q1 := q
    by_cases q : 1000 < f
    · have qe : ((1000 : Int) < f) = True := by simp; omega
      clear g1 q q1 q2 q3 q4 q5
      go_enter Tryz.func202, Tryz.ntmps202
      go_wp2_with fail
      go_quiet (fail)
      go_wp2_with fail
      go_ret
      exact ⟨ret_int HZ.out.symm, below_drewN HB.out _⟩
    have qn : ((1000 : Int) < f) = False := by simp; omega
    have q2 := q
    by_cases q : n < -1000
    · have qe : (n < -1000) = True := by simp; omega
      clear g1 q q1 q2 q3 q4 q5
      go_enter Tryz.func202, Tryz.ntmps202
      go_wp2_with fail
      go_quiet (fail)
      go_wp2_with fail
      go_ret
      exact ⟨ret_int HZ.out.symm, below_drewN HB.out _⟩
    have qn : (n < -1000) = False := by simp; omega
    have q3 := q
    by_cases q : 1000 < n
    · have qe : ((1000 : Int) < n) = True := by simp; omega
      clear g1 q q1 q2 q3 q4 q5
      go_enter Tryz.func202, Tryz.ntmps202
      go_wp2_with fail
      go_quiet (fail)
      go_wp2_with fail
      go_ret
      exact ⟨ret_int HZ.out.symm, below_drewN HB.out _⟩
    have qn : ((1000 : Int) < n) = False := by simp; omega
    have q4 := q
    by_cases q : n = 0
    · have qe : (n == 0) = true := by simp [q]
      have qm : (n = 0) = True := by simp [q]
      clear g1 q q1 q2 q3 q4 q5
      go_enter Tryz.func202, Tryz.ntmps202
      go_wp2_with fail
      go_quiet (fail)
      go_wp2_with fail
      go_ret
      exact ⟨ret_int HZ.out.symm, below_drewN HB.out _⟩
    have qn : (n == 0) = false := by simp [q]
    have qm : (n = 0) = False := by simp [q]
    have q5 := q
    by_cases q : f = n
    · have qe : (f == n) = true := by simp [q]
      have qm : (f = n) = True := by simp [q]
      clear g1 q q1 q2 q3 q4 q5
      go_enter Tryz.func202, Tryz.ntmps202
      go_wp2_with fail
      go_quiet (fail)
      go_wp2_with fail
      go_ret
      exact ⟨ret_int HZ.out.symm, below_drewN HB.out _⟩
    have qn : (f == n) = false := by simp [q]
    have qm : (f = n) = False := by simp [q]
    have q6 := q
    by_cases q : f = -n
    · have qe : (f == -n) = true := by simp [q]
      have qm : (f = -n) = True := by simp [q]
      clear g1 q q1 q2 q3 q4 q5 q6
      go_enter Tryz.func202, Tryz.ntmps202
      go_wp2_with fail
      go_quiet (fail)
      go_wp2_with fail
      go_ret
      exact ⟨ret_int HZ.out.symm, below_drewN HB.out _⟩
    · exact absurd ⟨by omega, by omega, by omega, by omega, by omega, by omega, by omega⟩ g1
end Go.Proofs.YtcbkijeonilcjaaGreat

/- The reference of layer 5: which rotors may be. -/
namespace Go.Proofs.YtcbkijeonilcjaaGreat
open Go.RowKit

theorem ref05_gcd (a0 b0 : Int) (w : World) (h1 : a0.natAbs ≤ 1099511627776) (h2 : b0.natAbs ≤ 1099511627776) :
    Calls Tryz.prog 279 #[.int .i64 a0, .int .i64 b0] w fun e w' => e = .returned (.int .i64 (Int.gcd a0 b0 : Nat)) ∧ Drn w w' := by
  have H0 : Hid (comAt a0 b0 a0 b0) := ⟨rfl, h1, h2⟩
  clear h1 h2
  go_enter Tryz.func279, Tryz.ntmps279
  go_wp2
  go_loopw [0, 1] (fun av bv wr => ∃ a b : Int, av = .int .i64 a ∧ bv = .int .i64 b ∧ comAt a0 b0 a b ∧ Drn w wr) (fun _ bv _ => (intOf bv).natAbs)
  case atStart => exact ⟨a0, b0, rfl, rfl, H0.out, Drn.refl _⟩
  case round =>
    obtain ⟨a, b, rfl, rfl, hC, n, rfl⟩ := hrel
    have HC := Lib.hid hC
    clear hC
    by_cases hb : b = 0
    · have e1 : (b != 0) = false := by simp [hb]
      have HE : Hid ((a.natAbs : Int) = (Int.gcd a0 b0 : Nat)) := by
        show (a.natAbs : Int) = _
        rw [← HC.out.1, hb, Int.gcd_zero_right]
      have ha := HC.out.2.1
      clear hb
      go_wp2
      go_ret
      exact ⟨ret_int (by have := HE.out; omega), drn1 _ _⟩
    · have e1 : (b != 0) = true := by simp [hb]
      have e2 : (b == 0) = false := by simp [hb]
      have HB := Lib.hid hb
      have h3 := HC.out.2.1
      have h4 := HC.out.2.2
      go_wp2
      go_quiet (fail)
      go_wp2
      go_roundw
      case measure =>
        simp only [intOf]
        rw [Int.natAbs_tmod]
        exact Nat.mod_lt _ (by have := HB.out; omega)
      case rel => exact ⟨b, a.tmod b, rfl, rfl, ⟨(gcd_tmod a b).trans HC.out.1, h4, by rw [Int.natAbs_tmod]; exact Nat.le_trans (Nat.le_of_lt (Nat.mod_lt _ (by have := HB.out; omega))) h4⟩, (by first | exact ⟨_, rfl⟩ | exact (drn1 _ _).step _ | exact ((drn1 _ _).step _).step _ | (repeat' (first | exact Drn.refl _ | apply Drn.step)))⟩

set_option maxRecDepth 100000 in
set_option maxHeartbeats 1000000 in
theorem ref05_Check (f n : Int) (w : World) (h1 : f.natAbs ≤ 2147483648) (h2 : n.natAbs ≤ 2147483648) :
    Calls Tryz.prog 205 #[.agg #[.int .i32 f, .int .i32 n]] w fun e w' => e = .returned (.int .i64 (rotE f n)) ∧ Below w.heap.size w w' := by
  have HB := Lib.hid ((Below.refl w.heap.size w).alloc (Nat.le_refl _) (.cells #[.int .i32 f, .int .i32 n] 58))
  have HC := Lib.hid (ref05_gcd f n)
  have HI := Lib.hid (And.intro h1 h2)
  have h3 : -2147483648 ≤ n := by omega
  have h4 : n ≤ 2147483648 := by omega
  have h5 : -2147483648 ≤ f := by omega
  have h6 : f ≤ 2147483648 := by omega
  by_cases g1 : 1 ≤ f ∧ f ≤ 1000 ∧ -1000 ≤ n ∧ n ≤ 1000 ∧ n ≠ 0 ∧ f ≠ n ∧ f ≠ -n
  · obtain ⟨a1, a2, a3, a4, a5, a6, a7⟩ := g1
    have b1 : (f < 1) = False := by simp; omega
    have b2 : ((1000 : Int) < f) = False := by simp; omega
    have b3 : (n < -1000) = False := by simp; omega
    have b4 : ((1000 : Int) < n) = False := by simp; omega
    have b5 : (n == 0) = false := by simp [a5]
    have b6 : (f == n) = false := by simp [a6]
    have b7 : (f == -n) = false := by simp [a7]
    have b8 : (f = n) = False := by simp [a6]
    have b9 : (f = -n) = False := by simp [a7]
    have HG : Hid (Int.gcd f n = 1 → rotOk f n) := fun h => ⟨a1, a2, a3, a4, a5, a6, a7, h⟩
    clear a1 a2 a5 a6 a7 h1 h2 h3 h4
    go_enter Tryz.func205, Tryz.ntmps205
    go_wp2_with fail
    refine (HC.out _ (by have := HI.out; omega) (by have := HI.out; omega)).mono ?_
    rintro e w1 ⟨rfl, n1, rfl⟩
    by_cases hg : Int.gcd f n = 1
    · have HZ : Hid (rotE f n = 0) := by show rotE f n = 0; unfold rotE; rw [if_pos (HG.out hg)]
      have e9 : (((Int.gcd f n : Nat) : Int) != 1) = false := by rw [hg]; rfl
      clear hg
      go_wp2_with fail
      go_ret
      exact ⟨ret_int HZ.out.symm, below_drewN HB.out _⟩
    · have HZ : Hid (rotE f n = 150) := by show rotE f n = 150; unfold rotE; rw [if_neg (fun h => hg h.2.2.2.2.2.2.2)]
      have e9 : (((Int.gcd f n : Nat) : Int) != 1) = true := by simp; omega
      clear hg
      go_wp2_with fail
      go_ret
      exact ⟨ret_int HZ.out.symm, below_drewN HB.out _⟩
  · have HZ : Hid (rotE f n = 150) := by
      show rotE f n = 150
      unfold rotE; rw [if_neg]; intro h; exact g1 ⟨h.1, h.2.1, h.2.2.1, h.2.2.2.1, h.2.2.2.2.1, h.2.2.2.2.2.1, h.2.2.2.2.2.2.1⟩
    clear h1 h2
    have q1 := True.intro; have q2 := True.intro; have q3 := True.intro; have q4 := True.intro; have q5 := True.intro
    by_cases q : f < 1
    · have qe : (f < 1) = True := by simp; omega
      clear g1 q q1 q2 q3 q4 q5
      go_enter Tryz.func205, Tryz.ntmps205
      go_wp2_with fail
      go_ret
      exact ⟨ret_int HZ.out.symm, HB.out⟩
    have qn : (f < 1) = False := by simp; omega
    have q1 := q
    by_cases q : 1000 < f
    · have qe : ((1000 : Int) < f) = True := by simp; omega
      clear g1 q q1 q2 q3 q4 q5
      go_enter Tryz.func205, Tryz.ntmps205
      go_wp2_with fail
      go_ret
      exact ⟨ret_int HZ.out.symm, HB.out⟩
    have qn : ((1000 : Int) < f) = False := by simp; omega
    have q2 := q
    by_cases q : n < -1000
    · have qe : (n < -1000) = True := by simp; omega
      clear g1 q q1 q2 q3 q4 q5
      go_enter Tryz.func205, Tryz.ntmps205
      go_wp2_with fail
      go_ret
      exact ⟨ret_int HZ.out.symm, HB.out⟩
    have qn : (n < -1000) = False := by simp; omega
    have q3 := q
    by_cases q : 1000 < n
    · have qe : ((1000 : Int) < n) = True := by simp; omega
      clear g1 q q1 q2 q3 q4 q5
      go_enter Tryz.func205, Tryz.ntmps205
      go_wp2_with fail
      go_ret
      exact ⟨ret_int HZ.out.symm, HB.out⟩
    have qn : ((1000 : Int) < n) = False := by simp; omega
    have q4 := q
    by_cases q : n = 0
    · have qe : (n == 0) = true := by simp [q]
      have qm : (n = 0) = True := by simp [q]
      clear g1 q q1 q2 q3 q4 q5
      go_enter Tryz.func205, Tryz.ntmps205
      go_wp2_with fail
      go_ret
      exact ⟨ret_int HZ.out.symm, HB.out⟩
    have qn : (n == 0) = false := by simp [q]
    have qm : (n = 0) = False := by simp [q]
    have q5 := q
    by_cases q : f = n
    · have qe : (f == n) = true := by simp [q]
      have qm : (f = n) = True := by simp [q]
      clear g1 q q1 q2 q3 q4 q5
      go_enter Tryz.func205, Tryz.ntmps205
      go_wp2_with fail
      go_ret
      exact ⟨ret_int HZ.out.symm, HB.out⟩
    have qn : (f == n) = false := by simp [q]
    have qm : (f = n) = False := by simp [q]
    have q6 := q
    by_cases q : f = -n
    · have qe : (f == -n) = true := by simp [q]
      have qm : (f = -n) = True := by simp [q]
      clear g1 q q1 q2 q3 q4 q5 q6
      go_enter Tryz.func205, Tryz.ntmps205
      go_wp2_with fail
      go_ret
      exact ⟨ret_int HZ.out.symm, HB.out⟩
    · exact absurd ⟨by omega, by omega, by omega, by omega, by omega, by omega, by omega⟩ g1
end Go.Proofs.YtcbkijeonilcjaaGreat
