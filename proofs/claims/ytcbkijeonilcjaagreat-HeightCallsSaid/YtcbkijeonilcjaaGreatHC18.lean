/- Package rotor: numbers. -/
import Derived.Test.YtcbkijeonilcjaaGreatHC9
import Derived.Test.YtcbkijeonilcjaaGreatHC17
namespace Go.Proofs.YtcbkijeonilcjaaGreat
open Go.RowKit

theorem sq_bd {f : Int} (h1 : -1000 ≤ f) (h2 : f ≤ 1000) : 0 ≤ f * f ∧ f * f ≤ 1000000 := by
  constructor
  · rcases Int.le_total 0 f with h | h
    · exact Int.mul_nonneg h h
    · have := Int.mul_nonneg (show 0 ≤ -f by omega) (show 0 ≤ -f by omega); grind
  · have := Int.mul_nonneg (show 0 ≤ 1000 - f by omega) (show 0 ≤ 1000 + f by omega); grind
theorem pr_bd {f n : Int} (h1 : -1000 ≤ f) (h2 : f ≤ 1000) (h3 : -1000 ≤ n) (h4 : n ≤ 1000) : -2000000 ≤ 2 * f * n ∧ 2 * f * n ≤ 2000000 := by
  have a := sq_bd h1 h2
  have b := sq_bd h3 h4
  have c : 0 ≤ (f + n) * (f + n) := by
    rcases Int.le_total 0 (f + n) with h | h
    · exact Int.mul_nonneg h h
    · have := Int.mul_nonneg (show 0 ≤ -(f + n) by omega) (show 0 ≤ -(f + n) by omega); grind
  have d : 0 ≤ (f - n) * (f - n) := by
    rcases Int.le_total 0 (f - n) with h | h
    · exact Int.mul_nonneg h h
    · have := Int.mul_nonneg (show 0 ≤ -(f - n) by omega) (show 0 ≤ -(f - n) by omega); grind
  constructor <;> grind

theorem rotor_parts (f n : Int) (w : World) (h1 : -1000 ≤ f) (h2 : f ≤ 1000) (h3 : -1000 ≤ n) (h4 : n ≤ 1000) :
    Calls Tryz.prog 278 #[.agg #[.int .i32 f, .int .i32 n]] w fun e w' => e = .returned (.tuple #[.int .i64 (f * f - n * n), .int .i64 (2 * f * n), .int .i64 (f * f + n * n)]) ∧ Below w.heap.size w w' := by
  obtain ⟨b1, b2⟩ := sq_bd h1 h2
  obtain ⟨b3, b4⟩ := sq_bd h3 h4
  obtain ⟨b5, b6⟩ := pr_bd h1 h2 h3 h4
  have HB := Lib.hid ((Below.refl w.heap.size w).alloc (Nat.le_refl _) (.cells #[.int .i32 f, .int .i32 n] 58))
  go_enter Tryz.func278, Tryz.ntmps278
  go_wp2_with fail
  go_quiet (fail)
  go_wp2_with fail
  go_ret3
  exact ⟨rfl, below_drewN HB.out _⟩

/-- the parts of a rotor's number -/
def rotRe (f n : Int) : Rat := mkRat (f * f - n * n) (f * f + n * n).natAbs
def rotIm (f n : Int) : Rat := mkRat (2 * f * n) (f * f + n * n).natAbs

set_option maxRecDepth 100000 in
set_option maxHeartbeats 1000000 in
theorem rotor_number (f n : Int) (w : World) (h1 : 1 ≤ f) (h2 : f ≤ 1000) (h3 : -1000 ≤ n) (h4 : n ≤ 1000) :
    Calls Tryz.prog 204 #[.agg #[.int .i32 f, .int .i32 n]] w fun e1 w' => ∃ v, e1 = .returned v ∧ GtO w' w.heap.size w'.heap.size v (rotRe f n) (rotIm f n) ∧ Below w.heap.size w w' := by
  obtain ⟨b1, b2⟩ := sq_bd (f := f) (by omega) h2
  obtain ⟨b3, b4⟩ := sq_bd h3 h4
  obtain ⟨b5, b6⟩ := pr_bd (f := f) (n := n) (by omega) h2 h3 h4
  have b7 : 0 < f * f := Int.mul_pos (by omega) (by omega)
  have HP := Lib.hid (rotor_parts f n)
  have HH := Lib.hid (And.intro (And.intro h1 h2) (And.intro h3 h4))
  have hRe : Hid (rotRe f n = mkRat (f * f - n * n) (f * f + n * n).natAbs) := rfl
  have hIm : Hid (rotIm f n = mkRat (2 * f * n) (f * f + n * n).natAbs) := rfl
  generalize rotRe f n = qx at *
  generalize rotIm f n = qy at *
  obtain ⟨W0, hW0⟩ : ∃ x, (w.alloc (.cells #[.int .i32 f, .int .i32 n] 58)).alloc (.cells #[.bool false, .slice none 0 0, .slice none 0 0, .bool false, .slice none 0 0, .slice none 0 0] 83) = x := ⟨_, rfl⟩
  have hb0 : Below w.heap.size w W0 := by rw [← hW0]; exact ((Below.refl _ _).alloc (Nat.le_refl _) _).alloc (by simp) _
  have hr0 : W0.heap[w.heap.size + 1]? = some (.cells #[.bool false, .slice none 0 0, .slice none 0 0, .bool false, .slice none 0 0, .slice none 0 0] 83) := by rw [← hW0]; simpa using heap_alloc_new (w.alloc _) _
  have hk0 : W0.heap[w.heap.size]? = some (.cells #[.int .i32 f, .int .i32 n] 58) := by rw [← hW0]; exact alloc_keep (heap_alloc_new w _) _
  have hs0 : W0.heap.size = w.heap.size + 2 := by rw [← hW0]; simp
  have HB0 := Lib.hid (And.intro hb0 (And.intro hr0 (And.intro hk0 hs0)))
  have e0 : W0.cell? ⟨w.heap.size, 0, none⟩ = some (.int .i32 f) := by simp [World.cell?, hk0]
  have e1 : W0.cell? ⟨w.heap.size, 1, none⟩ = some (.int .i32 n) := by simp [World.cell?, hk0]
  clear hb0 hr0 hk0 hs0 h1 h2 h3 h4
  obtain ⟨re, hre⟩ : ∃ x, f * f - n * n = x := ⟨_, rfl⟩
  obtain ⟨im, him⟩ : ∃ x, 2 * f * n = x := ⟨_, rfl⟩
  obtain ⟨ov, hov⟩ : ∃ x, f * f + n * n = x := ⟨_, rfl⟩
  have HM : Hid (-1000000 ≤ re ∧ re ≤ 1000000 ∧ -2000000 ≤ im ∧ im ≤ 2000000 ∧ 0 < ov ∧ ov ≤ 2000000) := by
    show _ ∧ _
    omega
  rw [hre, hov] at hRe
  rw [him, hov] at hIm
  rw [hre, him, hov] at HP
  clear hre him hov b1 b2 b3 b4 b5 b6 b7
  go_enter Tryz.func204, Tryz.ntmps204
  go_wp2_with fail
  have HW0 := Lib.hid hW0
  clear hW0 e0 e1
  refine (HP.out _ (by have := HH.out; omega) HH.out.1.2 HH.out.2.1 HH.out.2.2).mono ?_
  rintro e2 w1 ⟨rfl, hB1⟩
  have hr1 := (hB1.block _ (heap_lt HB0.out.2.1)).trans HB0.out.2.1
  have HB1 := Lib.hid (And.intro (HB0.out.1.trans (hB1.mono HB0.out.1.size)) (And.intro hr1 hB1.size))
  clear hr1 hB1
  go_wp2_with fail
  refine (ratio_Small re ov _ (by have := HM.out; omega) (by have := HM.out; omega) (by have := HM.out; omega) (by have := HM.out; omega)).mono ?_
  rintro e3 w2 ⟨v1, rfl, hO1, hB2⟩
  obtain ⟨gx, Ax, nx, cx, Ax', nx', cx', rfl⟩ := hO1.agg
  obtain ⟨w2', hw2'⟩ : ∃ x, w2.alloc (.cells #[.bool gx, .slice Ax nx cx, .slice Ax' nx' cx'] 24) = x := ⟨_, rfl⟩
  have hal : Below w2.heap.size w2 w2' := by rw [← hw2']; exact (Below.refl _ _).alloc (Nat.le_refl _) _
  have hbx : w2'.heap[w2.heap.size]? = some (rtO gx Ax nx cx Ax' nx' cx') := by rw [← hw2']; exact heap_alloc_new w2 _
  have hr2 := (hB2.block _ (heap_lt HB1.out.2.1)).trans HB1.out.2.1
  have hs := hB2.size
  have hs2 := HB1.out.2.2
  have hs3 := HB0.out.2.2.2
  have HA1 := Lib.hid (And.intro (hO1.below hal) (And.intro ((HB1.out.1.trans (hB2.mono HB1.out.1.size)).trans (hal.mono (by omega))) (And.intro ((hal.block _ (heap_lt hr2)).trans hr2) (And.intro hbx (And.intro (show w.heap.size + 2 ≤ w1.heap.size by omega) (And.intro hs hal.size))))))
  clear hO1 hB2 hal hbx hr2 hs hs2 hs3
  go_wp2_with fail
  have HW2 := Lib.hid hw2'
  clear hw2'
  refine (ratio_Small im ov _ (by have := HM.out; omega) (by have := HM.out; omega) (by have := HM.out; omega) (by have := HM.out; omega)).mono ?_
  rintro e4 w3 ⟨v2, rfl, hO2, hB3⟩
  obtain ⟨gy, Ay, ny, cy, Ay', ny', cy', rfl⟩ := hO2.agg
  obtain ⟨w3', hw3'⟩ : ∃ x, w3.alloc (.cells #[.bool gy, .slice Ay ny cy, .slice Ay' ny' cy'] 24) = x := ⟨_, rfl⟩
  have hal : Below w3.heap.size w3 w3' := by rw [← hw3']; exact (Below.refl _ _).alloc (Nat.le_refl _) _
  have hby : w3'.heap[w3.heap.size]? = some (rtO gy Ay ny cy Ay' ny' cy') := by rw [← hw3']; exact heap_alloc_new w3 _
  have hs3 := hB3.size
  have hkx : w3'.heap[w2.heap.size]? = some (rtO gx Ax nx cx Ax' nx' cx') := by
    have h := (hB3.block _ (heap_lt HA1.out.2.2.2.1)).trans HA1.out.2.2.2.1
    rw [hal.block _ (heap_lt h)]; exact h
  have hkr : w3'.heap[w.heap.size + 1]? = some (.cells #[.bool false, .slice none 0 0, .slice none 0 0, .bool false, .slice none 0 0, .slice none 0 0] 83) := by
    have h := (hB3.block _ (heap_lt HA1.out.2.2.1)).trans HA1.out.2.2.1
    rw [hal.block _ (heap_lt h)]; exact h
  obtain ⟨x0, x1, x2, _, _, _⟩ := cell3 hkx
  obtain ⟨y0, y1, y2, _, _, _⟩ := cell3 hby
  obtain ⟨⟨r0, r1, r2⟩, r3, r4, r5⟩ := cell6 hkr
  obtain ⟨s0, s1, s2, s3, s4, s5⟩ := free6 hkr
  have HF2 : Hid (RtO 116 w3' (w.heap.size + 2) w2.heap.size (.agg #[.bool gx, .slice Ax nx cx, .slice Ax' nx' cx']) qx ∧ RtO 116 w3' w2.heap.size w3.heap.size (.agg #[.bool gy, .slice Ay ny cy, .slice Ay' ny' cy']) qy ∧ Below w.heap.size w w3' ∧ w.heap.size + 2 ≤ w2.heap.size ∧ w2.heap.size ≤ w3.heap.size ∧ w3.heap.size ≤ w3'.heap.size) := by
    have := HA1.out.2.2.2.2
    refine ⟨by rw [hRe.out]; exact ((HA1.out.1.below hB3).below hal).mono (by omega) (Nat.le_refl _), by rw [hIm.out]; exact (hO2.below hal).mono (by omega) (Nat.le_refl _), (HA1.out.2.1.trans (hB3.mono HA1.out.2.1.size)).trans (hal.mono (by omega)), by omega, by omega, hal.size⟩
  clear hO2 hB3 hal hby hkx hkr hs3
  go_wp2_with fail
  have HW3 := Lib.hid hw3'
  clear hw3'
  exact bodyPost_ret (v := .agg #[.bool gx, .slice Ax nx cx, .slice Ax' nx' cx', .bool gy, .slice Ay ny cy, .slice Ay' ny' cy']) (by simp [results, Tryz.results204, go_sem, r0, r1, r2, r3, r4, r5]) rfl
    ⟨.agg #[.bool gx, .slice Ax nx cx, .slice Ax' nx' cx', .bool gy, .slice Ay ny cy, .slice Ay' ny' cy'], rfl, ⟨.agg #[.bool gx, .slice Ax nx cx, .slice Ax' nx' cx'], .agg #[.bool gy, .slice Ay ny cy, .slice Ay' ny' cy'], w2.heap.size, rfl, by have := HF2.out.2.2.2.1; omega, by have := HF2.out.2.2.2.2; simp; omega, (HF2.out.1.set6 (by omega)).mono (by omega) (Nat.le_refl _), (HF2.out.2.1.set6 (by have := HF2.out.2.2.2.1; omega)).mono (Nat.le_refl _) (by have := HF2.out.2.2.2.2; simp; omega)⟩, below_set6 HF2.out.2.2.1 (by omega) _ _ _ _ _ _⟩
end Go.Proofs.YtcbkijeonilcjaaGreat

/- Powers of rotors' numbers: how long they are (plain). -/
namespace Go.Proofs.YtcbkijeonilcjaaGreat

def cmul (x y : Rat × Rat) : Rat × Rat := (x.1 * y.1 - x.2 * y.2, x.1 * y.2 + x.2 * y.1)
def cpw (z : Rat × Rat) : Nat → Rat × Rat
  | 0 => (1, 0)
  | k + 1 => cmul (cpw z k) z
theorem cmul_assoc (x y z : Rat × Rat) : cmul (cmul x y) z = cmul x (cmul y z) := by
  unfold cmul; ext <;> simp <;> grind
theorem cmul_one (x : Rat × Rat) : cmul x (1, 0) = x := by
  unfold cmul; ext <;> simp <;> grind
theorem one_cmul (x : Rat × Rat) : cmul (1, 0) x = x := by
  unfold cmul; ext <;> simp <;> grind
theorem cpw_add (z : Rat × Rat) (j k : Nat) : cpw z (j + k) = cmul (cpw z j) (cpw z k) := by
  induction k with
  | zero => rw [Nat.add_zero, cpw, cmul_one]
  | succ k ih => rw [← Nat.add_assoc, cpw, ih, cmul_assoc]; rfl
theorem cpw_one (z : Rat × Rat) : cpw z 1 = z := by rw [cpw, cpw, one_cmul]

/-- so much over D, at most B without its sign -/
def Bdd (D B : Nat) (r : Rat) : Prop := ∃ N : Int, r * (D : Rat) = (N : Rat) ∧ N.natAbs ≤ B
theorem Bdd.mul {D D' B B' : Nat} {r s : Rat} (h : Bdd D B r) (k : Bdd D' B' s) : Bdd (D * D') (B * B') (r * s) := by
  obtain ⟨N, h1, h2⟩ := h
  obtain ⟨M, k1, k2⟩ := k
  refine ⟨N * M, ?_, by rw [Int.natAbs_mul]; exact Nat.mul_le_mul h2 k2⟩
  rw [Rat.natCast_mul, Rat.intCast_mul, ← h1, ← k1]; grind
theorem Bdd.add {D B B' : Nat} {r s : Rat} (h : Bdd D B r) (k : Bdd D B' s) : Bdd D (B + B') (r + s) := by
  obtain ⟨N, h1, h2⟩ := h
  obtain ⟨M, k1, k2⟩ := k
  exact ⟨N + M, by rw [Rat.intCast_add, ← h1, ← k1]; grind, by omega⟩
theorem Bdd.sub {D B B' : Nat} {r s : Rat} (h : Bdd D B r) (k : Bdd D B' s) : Bdd D (B + B') (r - s) := by
  obtain ⟨N, h1, h2⟩ := h
  obtain ⟨M, k1, k2⟩ := k
  exact ⟨N - M, by rw [Rat.intCast_sub, ← h1, ← k1]; grind, by omega⟩
theorem Bdd.mono {D B B' : Nat} {r : Rat} (h : Bdd D B r) (hb : B ≤ B') : Bdd D B' r := by
  obtain ⟨N, h1, h2⟩ := h
  exact ⟨N, h1, by omega⟩
theorem Bdd.of_mkRat (N : Int) {D : Nat} (hD : 0 < D) : Bdd D N.natAbs (mkRat N D) := by
  refine ⟨N, ?_, Nat.le_refl _⟩
  rw [Rat.mkRat_eq_div]
  have : (D : Rat) ≠ 0 := by
    intro h; have := Rat.natCast_eq_zero_iff.1 h; omega
  exact Rat.div_mul_cancel this
theorem Bdd.eq {D B : Nat} {r : Rat} (hD : 0 < D) (h : Bdd D B r) : ∃ N : Int, r = mkRat N D ∧ N.natAbs ≤ B := by
  obtain ⟨N, h1, h2⟩ := h
  refine ⟨N, ?_, h2⟩
  rw [Rat.mkRat_eq_div, ← h1]
  have : (D : Rat) ≠ 0 := by
    intro h; have := Rat.natCast_eq_zero_iff.1 h; omega
  exact (Rat.mul_div_cancel this).symm
theorem Bdd.fits {D B : Nat} {r : Rat} (hD : 0 < D) (h : Bdd D B r) (h1 : wl D ≤ 2048) (h2 : wl B ≤ 2048) : fits r := by
  obtain ⟨N, rfl, hN⟩ := h.eq hD
  have e : mkRat N D = frac (decide (N < 0)) N.natAbs D := by
    unfold frac; congr 1; unfold sg
    by_cases h : N < 0
    · rw [decide_eq_true h, if_pos rfl]; omega
    · rw [decide_eq_false h, if_neg (by simp)]; omega
  rw [e]
  refine ⟨?_, ?_⟩
  · rw [frac_num _ _ hD]; exact Nat.le_trans (wl_mono (Nat.le_trans (Nat.div_le_self _ _) hN)) h2
  · rw [frac_den _ _ hD]; exact Nat.le_trans (wl_mono (Nat.div_le_self _ _)) h1
theorem wl_pow (b k n m : Nat) (hb : b ≤ 2 ^ m) (hk : m * k + 2 ≤ 32 * n) : wl (2 * b ^ k) ≤ n := by
  rw [wl_le, show (4294967296 : Nat) = 2 ^ 32 from rfl, ← Nat.pow_mul]
  have h1 : b ^ k ≤ 2 ^ (m * k) := by rw [Nat.pow_mul]; exact Nat.pow_le_pow_left hb k
  have h2 : 2 ^ (m * k + 2) ≤ 2 ^ (32 * n) := Nat.pow_le_pow_right (by omega) hk
  rw [Nat.pow_add] at h2
  have h3 : 0 < 2 ^ (m * k) := Nat.pow_pos (by omega)
  omega

/-- the power k of a number whose parts are at most 2,000,000 over d -/
theorem cpw_bdd {z : Rat × Rat} {d : Nat} (h1 : Bdd d 2000000 z.1) (h2 : Bdd d 2000000 z.2) (k : Nat) : Bdd (d ^ k) (4000000 ^ k) (cpw z k).1 ∧ Bdd (d ^ k) (4000000 ^ k) (cpw z k).2 := by
  induction k with
  | zero => exact ⟨⟨1, by simp [cpw], by simp⟩, ⟨0, by simp [cpw], by simp⟩⟩
  | succ k ih =>
    rw [Nat.pow_succ, Nat.pow_succ]
    have e : 4000000 ^ k * 2000000 + 4000000 ^ k * 2000000 ≤ 4000000 ^ k * 4000000 := by
      rw [← Nat.mul_add]; exact Nat.le_refl _
    exact ⟨((ih.1.mul h1).sub (ih.2.mul h2)).mono e, ((ih.1.mul h2).add (ih.2.mul h1)).mono e⟩
end Go.Proofs.YtcbkijeonilcjaaGreat

/- Package rotor: powers. -/
namespace Go.Proofs.YtcbkijeonilcjaaGreat
open Go.RowKit

def rotZ (f n : Int) : Rat × Rat := (rotRe f n, rotIm f n)
def rotD (f n : Int) : Nat := (f * f + n * n).natAbs
theorem rotD_bd {f n : Int} (h1 : 1 ≤ f) (h2 : f ≤ 1000) (h3 : -1000 ≤ n) (h4 : n ≤ 1000) : 0 < rotD f n ∧ rotD f n ≤ 2000000 := by
  obtain ⟨b1, b2⟩ := sq_bd (f := f) (by omega) h2
  obtain ⟨b3, b4⟩ := sq_bd h3 h4
  have b7 : 0 < f * f := Int.mul_pos (by omega) (by omega)
  unfold rotD; omega
theorem rotZ_bdd {f n : Int} (h1 : 1 ≤ f) (h2 : f ≤ 1000) (h3 : -1000 ≤ n) (h4 : n ≤ 1000) : Bdd (rotD f n) 2000000 (rotZ f n).1 ∧ Bdd (rotD f n) 2000000 (rotZ f n).2 := by
  obtain ⟨b1, b2⟩ := sq_bd (f := f) (by omega) h2
  obtain ⟨b3, b4⟩ := sq_bd h3 h4
  obtain ⟨b5, b6⟩ := pr_bd (f := f) (n := n) (by omega) h2 h3 h4
  have hd := (rotD_bd h1 h2 h3 h4).1
  exact ⟨(Bdd.of_mkRat _ hd).mono (by omega), (Bdd.of_mkRat _ hd).mono (by omega)⟩
theorem pow_fits {D k : Nat} {r : Rat} (hD : 0 < D) (hd : D ≤ 2000000) (hk : k ≤ 1024) (h : Bdd (D ^ k) (2 * 4000000 ^ k) r) : fits r := by
  refine h.fits (Nat.pow_pos hD) ?_ ?_
  · exact Nat.le_trans (wl_mono (show D ^ k ≤ 2 * 4000000 ^ k from Nat.le_trans (Nat.pow_le_pow_left (show D ≤ 4000000 by omega) k) (by omega))) (wl_pow 4000000 k 2048 22 (by omega) (by omega))
  · exact wl_pow 4000000 k 2048 22 (by omega) (by omega)
theorem cpw_fits {z : Rat × Rat} {D : Nat} (hD : 0 < D) (hd : D ≤ 2000000) (h1 : Bdd D 2000000 z.1) (h2 : Bdd D 2000000 z.2) {k : Nat} (hk : k ≤ 1024) : fits (cpw z k).1 ∧ fits (cpw z k).2 := by
  obtain ⟨a, b⟩ := cpw_bdd h1 h2 k
  exact ⟨pow_fits hD hd hk (a.mono (by omega)), pow_fits hD hd hk (b.mono (by omega))⟩
theorem prod_fits {z : Rat × Rat} {D : Nat} (hD : 0 < D) (hd : D ≤ 2000000) (h1 : Bdd D 2000000 z.1) (h2 : Bdd D 2000000 z.2) {j k : Nat} (hk : j + k ≤ 1024) :
    prodE 0 (cpw z j).1 (cpw z j).2 (cpw z k).1 (cpw z k).2 = 0 := by
  obtain ⟨a, b⟩ := cpw_bdd h1 h2 j
  obtain ⟨c, d⟩ := cpw_bdd h1 h2 k
  have key : ∀ {x y : Rat}, Bdd (D ^ j) (4000000 ^ j) x → Bdd (D ^ k) (4000000 ^ k) y → Bdd (D ^ (j + k)) (4000000 ^ (j + k)) (x * y) := by
    intro x y hx hy; rw [Nat.pow_add, Nat.pow_add]; exact hx.mul hy
  have f1 : ∀ {x : Rat}, Bdd (D ^ (j + k)) (4000000 ^ (j + k)) x → fits x := fun h => pow_fits hD hd hk (h.mono (by omega))
  unfold prodE
  simp only [nextE_zero]
  refine ⟨⟨⟨⟨⟨⟨trivial, f1 (key a c)⟩, f1 (key b d)⟩, ?_⟩, f1 (key a d)⟩, f1 (key b c)⟩, ?_⟩
  · exact pow_fits hD hd hk (((key a c).sub (key b d)).mono (by omega))
  · exact pow_fits hD hd hk (((key a d).add (key b c)).mono (by omega))
end Go.Proofs.YtcbkijeonilcjaaGreat

/- Package tide: names. -/
namespace Go.Proofs.YtcbkijeonilcjaaGreat
open Go.RowKit

def letB (c : Int) : Bool := decide (97 ≤ c ∧ c ≤ 122) || decide (65 ≤ c ∧ c ≤ 90)
theorem tide_letter (c : Int) (w : World) :
    Calls Tryz.prog 213 #[.int .u8 c] w fun e w' => e = .returned (.bool (letB c)) ∧ w' = w := by
  have HL : ∀ b, (b = letB c) → Hid (b = letB c) := fun b h => h
  by_cases h1 : 97 ≤ c
  · by_cases h2 : c ≤ 122
    · have HE : Hid (letB c = true) := by show letB c = true; unfold letB; simp [h1, h2]
      clear HL
      go_enter Tryz.func213, Tryz.ntmps213
      go_wp2
      go_ret
      exact ⟨by rw [HE.out]; rfl, rfl⟩
    · have HE : Hid (letB c = false) := by show letB c = false; unfold letB; simp; omega
      have h3 : 65 ≤ c := by omega
      have h4 : ¬ c ≤ 90 := by omega
      clear HL
      go_enter Tryz.func213, Tryz.ntmps213
      go_wp2
      go_ret
      exact ⟨by rw [HE.out]; rfl, rfl⟩
  · by_cases h3 : 65 ≤ c
    · by_cases h4 : c ≤ 90
      · have HE : Hid (letB c = true) := by show letB c = true; unfold letB; simp [h3, h4]
        clear HL
        go_enter Tryz.func213, Tryz.ntmps213
        go_wp2
        go_ret
        exact ⟨by rw [HE.out]; rfl, rfl⟩
      · have HE : Hid (letB c = false) := by show letB c = false; unfold letB; simp; omega
        clear HL
        go_enter Tryz.func213, Tryz.ntmps213
        go_wp2
        go_ret
        exact ⟨by rw [HE.out]; rfl, rfl⟩
    · have HE : Hid (letB c = false) := by show letB c = false; unfold letB; simp; omega
      clear HL
      go_enter Tryz.func213, Tryz.ntmps213
      go_wp2
      go_ret
      exact ⟨by rw [HE.out]; rfl, rfl⟩
end Go.Proofs.YtcbkijeonilcjaaGreat
