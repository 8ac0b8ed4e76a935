/- Floats: the order of finite words. -/
import Derived.Test.YtcbkijeonilcjaaGreatHC18
import Derived.Test.YtcbkijeonilcjaaGreatHC26
namespace Go.Proofs.YtcbkijeonilcjaaGreat
open Ieee

theorem int_rat_lt {u v : Int} {c : Rat} (hc : 0 < c) : u < v ↔ (u : Rat) * c < (v : Rat) * c := by
  constructor
  · intro h
    exact Rat.mul_lt_mul_of_pos_right (Rat.intCast_lt_intCast.2 h) hc
  · intro h
    by_cases k : u < v
    · exact k
    · replace k : v ≤ u := by omega
      exact absurd h (Rat.not_lt.2 (Rat.mul_le_mul_of_nonneg_right (Rat.intCast_le_intCast.2 k) (Rat.le_of_lt hc)))
theorem order_num {x y : Nat} {s t : Bool} {a b : Rat} (hx : Num x s a) (hy : Num y t b) :
    double.order x y = some (if sgq s a < sgq t b then .lt else if sgq s a = sgq t b then .eq else .gt) := by
  obtain ⟨_, m, i, e1, _, rfl⟩ := hx
  obtain ⟨_, n, j, e2, _, rfl⟩ := hy
  unfold Format.order
  rw [e1, e2]
  show some (compare (signed s m (i - min i j).toNat) (signed t n (j - min i j).toNat)) = _
  have h1 := signed_rat s m (i - min i j).toNat (min i j)
  have h2 := signed_rat t n (j - min i j).toNat (min i j)
  rw [show min i j + ((i - min i j).toNat : Int) = i by omega] at h1
  rw [show min i j + ((j - min i j).toNat : Int) = j by omega] at h2
  rw [← h1, ← h2]
  generalize signed s m (i - min i j).toNat = u
  generalize signed t n (j - min i j).toNat = v
  have hc := p2_pos (min i j)
  congr 1
  show compareOfLessAndEq u v = _
  unfold compareOfLessAndEq
  by_cases h : u < v
  · rw [if_pos h, if_pos ((int_rat_lt hc).1 h)]
  · rw [if_neg h, if_neg (fun k => h ((int_rat_lt hc).2 k))]
    by_cases h3 : u = v
    · rw [if_pos h3, if_pos (by rw [h3])]
    · rw [if_neg h3, if_neg ?_]
      intro k
      have h4 : v < u := by omega
      have := (int_rat_lt hc).1 h4
      rw [k] at this
      exact absurd this (Rat.lt_irrefl)
theorem order_self {x : Nat} {s : Bool} {a : Rat} (hx : Num x s a) : double.order x x = some .eq := by
  rw [order_num hx hx, if_neg Rat.lt_irrefl, if_pos rfl]
/-- each word is a sign's and a rung's -/
theorem word_of {b : Nat} (h : b < 18446744073709551616) : b = double.word (decide (9223372036854775808 ≤ b)) (b % 9223372036854775808) := by
  unfold Format.word
  rw [dbl_sign]
  by_cases k : 9223372036854775808 ≤ b
  · rw [if_pos (by simp [k])]; omega
  · rw [if_neg (by simp [k])]; omega
theorem word_false (r : Nat) : double.word false r = r := rfl
/-- a finite word: its rung and its worth -/
theorem num_rung {b : Nat} {s : Bool} {a : Rat} (h : Num b s a) : b % 9223372036854775808 < 9218868437227405312 ∧ s = decide (9223372036854775808 ≤ b) ∧ Num (b % 9223372036854775808) false a ∧ a ≤ 9007199254740991 * p2 971 := by
  obtain ⟨hb, m, e, hr, he, rfl⟩ := h
  have hw := word_of hb
  have hlt : b % 9223372036854775808 < 9223372036854775808 := Nat.mod_lt _ (by decide)
  rw [hw, read_word _ hlt] at hr
  have h0 := read_word false hlt
  rw [word_false] at h0
  generalize b % 9223372036854775808 = r at *
  have bd : ∀ (x : Nat) (y : Int), x ≤ 9007199254740991 → y ≤ 971 → (x : Rat) * p2 y ≤ 9007199254740991 * p2 971 := fun x y hx hy => by
    have h1 : (x : Rat) ≤ 9007199254740991 := by
      have := Rat.natCast_le_natCast.2 hx
      exact this
    have h2 : p2 y ≤ p2 971 := p2_mono hy
    have h3 := p2_pos y
    calc (x : Rat) * p2 y ≤ 9007199254740991 * p2 y := Rat.mul_le_mul_of_nonneg_right h1 (Rat.le_of_lt h3)
      _ ≤ _ := Rat.mul_le_mul_of_nonneg_left h2 (by decide)
  by_cases k1 : r < 4503599627370496
  · rw [if_pos k1] at hr h0
    injection hr with q1 q2 q3
    subst q1 q2 q3
    exact ⟨by omega, rfl, ⟨by omega, _, _, h0, by omega, rfl⟩, bd _ _ (by omega) (by omega)⟩
  · rw [if_neg k1] at hr h0
    by_cases k2 : r < 9218868437227405312
    · rw [if_pos k2] at hr h0
      injection hr with q1 q2 q3
      subst q1 q2 q3
      exact ⟨k2, rfl, ⟨by omega, _, _, h0, by omega, rfl⟩, bd _ _ (by omega) (by omega)⟩
    · rw [if_neg k2] at hr
      by_cases k3 : r = 9218868437227405312
      · rw [if_pos k3] at hr; cases hr
      · rw [if_neg k3] at hr; cases hr
theorem num_greatest : Num 9218868437227405311 false (9007199254740991 * p2 971) := by
  refine ⟨by decide, 9007199254740991, 971, ?_, by decide, rfl⟩
  have := read_word false (r := 9218868437227405311) (by decide)
  rw [word_false] at this
  rw [this, if_neg (by decide), if_pos (by decide)]
  congr 1
/-- a finite word is not above the greatest one -/
theorem order_greatest {x : Nat} {s : Bool} {a : Rat} (hx : Num x s a) : (double.order (x % 9223372036854775808) 9218868437227405311 == some .gt) = false := by
  obtain ⟨_, _, h1, h2⟩ := num_rung hx
  rw [order_num h1 num_greatest]
  show (some (if a < 9007199254740991 * p2 971 then Ordering.lt else if a = 9007199254740991 * p2 971 then Ordering.eq else Ordering.gt) == some Ordering.gt) = false
  by_cases k : a < 9007199254740991 * p2 971
  · rw [if_pos k]; rfl
  · rw [if_neg k]
    have : a = 9007199254740991 * p2 971 := Rat.le_antisymm h2 (Rat.not_lt.1 k)
    rw [if_pos this]; rfl
end Go.Proofs.YtcbkijeonilcjaaGreat

/- Floats: what needs no rounding. -/
namespace Go.Proofs.YtcbkijeonilcjaaGreat
open Ieee

theorem kept_exact {mag M : Nat} (neg : Bool) (place : Int) (h : (mag : Rat) * p2 place = (M : Rat) * p2 (lastP mag place)) : keptP neg mag place = M :=
  Nat.le_antisymm (kept_le neg place (by rw [h]; exact Rat.le_refl)) (kept_ge neg place (by rw [h]; exact Rat.le_refl))
theorem mul_p2_nat (m a : Nat) (k : Int) : ((m * 2 ^ a : Nat) : Rat) * p2 k = (m : Rat) * p2 (k + a) := by
  rw [Rat.natCast_mul, ← p2_nat, Rat.mul_assoc, ← p2_add, Int.add_comm]
theorem log2_53 {m : Nat} (h0 : m ≠ 0) (hm : m ≤ 9007199254740992) : m.log2 ≤ 52 ∨ m = 9007199254740992 := by
  by_cases h : m < 9007199254740992
  · left
    have := (Nat.log2_lt (k := 53) h0).2 h
    omega
  · right; omega
/-- a number of 53 bits at a place that floats have is a float -/
theorem exact_num (neg : Bool) {m : Nat} (k K : Int) (h0 : m ≠ 0) (hm : m ≤ 9007199254740992) (hk : -1074 ≤ k) (hK0 : -1074 ≤ K) (hK : K ≤ 1023) (hb : (m : Rat) * p2 k ≤ p2 K) :
    Num (double.nearest neg m k) neg ((m : Rat) * p2 k) := by
  obtain ⟨_, _, h1, _⟩ := near_num neg k K h0 hK0 hK hb
  have hM : ∃ M : Nat, (m : Rat) * p2 k = (M : Rat) * p2 (lastP m k) := by
    rcases log2_53 h0 hm with h | h
    · refine ⟨m * 2 ^ (k - lastP m k).toNat, ?_⟩
      rw [mul_p2_nat]
      congr 2
      unfold lastP
      omega
    · refine ⟨4503599627370496, ?_⟩
      have hl : m.log2 = 53 := by rw [h]; decide
      have hla : lastP m k = k + 1 := by unfold lastP; omega
      rw [hla, p2_succ, h]
      have e1 : ((9007199254740992 : Nat) : Rat) = 9007199254740992 := rfl
      have e2 : ((4503599627370496 : Nat) : Rat) = 4503599627370496 := rfl
      rw [e1, e2]
      grind
  obtain ⟨M, hM⟩ := hM
  rw [kept_exact neg k hM, ← hM] at h1
  exact h1
/-- the word of a worth is one -/
theorem nearest_exact {b mag : Nat} {s : Bool} {place : Int} (h0 : mag ≠ 0) (h : Num b s ((mag : Rat) * p2 place)) : double.nearest s mag place = b := by
  obtain ⟨hr1, hs, ⟨hb2, m, e, hr, he, hx⟩, _⟩ := num_rung h
  have hw := word_of h.1
  rw [← hs] at hw
  have hlt : b % 9223372036854775808 < 9223372036854775808 := Nat.mod_lt _ (by decide)
  have h9 := read_word false hlt
  rw [word_false, hr] at h9
  rw [hw]
  generalize b % 9223372036854775808 = r at *
  have hm0 : m ≠ 0 := by
    intro hm
    rw [hm, show ((0 : Nat) : Rat) = 0 from rfl, Rat.zero_mul] at hx
    have h3 := (mag_log h0 place).1
    rw [← hx] at h3
    exact absurd h3 (Rat.not_le.2 (p2_pos _))
  have l1 := mag_log h0 place
  have l2 := mag_log hm0 e
  rw [hx] at l2
  have hlog : place + mag.log2 = e + m.log2 := by
    have a1 : place + mag.log2 < e + m.log2 + 1 := p2_lt (by have := l1.1; have := l2.2; grind)
    have a2 : e + m.log2 < place + mag.log2 + 1 := p2_lt (by have := l2.1; have := l1.2; grind)
    omega
  have key : lastP mag place = e ∧ ((e + 1074).toNat * 4503599627370496 + m = r) := by
    by_cases k1 : r < 4503599627370496
    · rw [if_pos k1] at h9
      injection h9 with q1 q2 q3
      subst q2 q3
      have := (Nat.log2_lt (k := 52) hm0).2 k1
      refine ⟨?_, by omega⟩
      unfold lastP; omega
    · rw [if_neg k1, if_pos hr1] at h9
      injection h9 with q1 q2 q3
      have b1 : m < 2 ^ 53 := by rw [q2]; have := Nat.mod_lt r (show 0 < 4503599627370496 by decide); rw [two53]; omega
      have b2 : 2 ^ 52 ≤ m := by rw [q2, two52]; omega
      have c1 := (Nat.log2_lt (k := 53) hm0).2 b1
      have c2 := (Nat.le_log2 (k := 52) hm0).2 b2
      refine ⟨?_, by omega⟩
      unfold lastP; omega
  obtain ⟨k1, k2⟩ := key
  rw [nearest_def s place h0, kept_exact s place (M := m) (by rw [k1]; exact hx.symm), k1, k2, Nat.min_eq_left (by omega)]
/-- a product that needs no rounding -/
theorem fmul_exact {x y m : Nat} {s t : Bool} {a b : Rat} {k K : Int} (hx : Num x s a) (hy : Num y t b) (h0 : m ≠ 0) (hm : m ≤ 9007199254740992) (hk : -1074 ≤ k) (hK0 : -1074 ≤ K) (hK : K ≤ 1023) (hb : (m : Rat) * p2 k ≤ p2 K)
    (h : a * b = (m : Rat) * p2 k) : floatBits .mul .f64 x y = some (double.nearest (s ^^ t) m k) := by
  obtain ⟨_, m1, i, h1, h2, h3⟩ := hx
  obtain ⟨_, n, j, g1, g2, g3⟩ := hy
  have e : ((m1 * n : Nat) : Rat) * p2 (i + j) = a * b := by rw [p2_add, ← h3, ← g3, Rat.natCast_mul]; grind
  have hn := exact_num (s ^^ t) k K h0 hm hk hK0 hK hb
  rw [← h, ← e] at hn
  have hne : m1 * n ≠ 0 := by
    intro hz
    rw [hz, show ((0 : Nat) : Rat) = 0 from rfl, Rat.zero_mul] at e
    rw [← e] at h
    have h5 := (mag_log h0 k).1
    rw [← h] at h5
    exact absurd h5 (Rat.not_le.2 (p2_pos _))
  have hq := nearest_exact hne hn
  show Format.mul double x y = _
  unfold Format.mul
  rw [h1, g1]
  simp only [Datum.product, Option.map_some, Format.write]
  rw [hq]
/-- the bits of a float that is no small one -/
theorem bits_of {F mag : Nat} {place : Int} (h0 : mag ≠ 0) (h : Num F false ((mag : Rat) * p2 place)) (hl : -1022 ≤ place + mag.log2) :
    ((F / 4503599627370496 : Nat) : Int) = place + mag.log2 + 1023 ∧ F < 9218868437227405312 ∧ (mag : Rat) * p2 place = ((4503599627370496 + F % 4503599627370496 : Nat) : Rat) * p2 (place + mag.log2 - 52) := by
  obtain ⟨hr1, hs, ⟨hb2, m, e, hr, he, hx⟩, _⟩ := num_rung h
  have hw : F < 9223372036854775808 := by
    by_cases k : 9223372036854775808 ≤ F
    · rw [decide_eq_true k] at hs; exact absurd hs (by decide)
    · omega
  have hF : F % 9223372036854775808 = F := Nat.mod_eq_of_lt hw
  rw [hF] at hr1 hr
  have h9 := read_word false hw
  rw [word_false, hr] at h9
  have hm0 : m ≠ 0 := by
    intro hm
    rw [hm, show ((0 : Nat) : Rat) = 0 from rfl, Rat.zero_mul] at hx
    have h3 := (mag_log h0 place).1
    rw [← hx] at h3
    exact absurd h3 (Rat.not_le.2 (p2_pos _))
  have l1 := mag_log h0 place
  have l2 := mag_log hm0 e
  rw [hx] at l2
  have hlog : place + mag.log2 = e + m.log2 := by
    have a1 : place + mag.log2 < e + m.log2 + 1 := p2_lt (by have := l1.1; have := l2.2; grind)
    have a2 : e + m.log2 < place + mag.log2 + 1 := p2_lt (by have := l2.1; have := l1.2; grind)
    omega
  by_cases k1 : F < 4503599627370496
  · rw [if_pos k1] at h9
    injection h9 with q1 q2 q3
    subst q2 q3
    have := (Nat.log2_lt (k := 52) hm0).2 k1
    omega
  · rw [if_neg k1, if_pos hr1] at h9
    injection h9 with q1 q2 q3
    have b1 : m < 2 ^ 53 := by rw [q2]; have := Nat.mod_lt F (show 0 < 4503599627370496 by decide); rw [two53]; omega
    have b2 : 2 ^ 52 ≤ m := by rw [q2, two52]; omega
    have c1 := (Nat.log2_lt (k := 53) hm0).2 b1
    have c2 := (Nat.le_log2 (k := 52) hm0).2 b2
    refine ⟨by omega, hr1, ?_⟩
    rw [← hx, q2]
    congr 2
    omega
/-- a float of its bits -/
theorem num_bits {f : Nat} {x : Int} (hf : f < 4503599627370496) (h1 : -1022 ≤ x) (h2 : x ≤ 1023) :
    Num ((x + 1023).toNat * 4503599627370496 + f) false (((4503599627370496 + f : Nat) : Rat) * p2 (x - 52)) := by
  have h := rung_num false (L := (x + 1022).toNat) (k := 4503599627370496 + f) (by omega) (.inr (by omega)) (by omega)
  rw [word_false] at h
  rw [show (x + 1022).toNat * 4503599627370496 + (4503599627370496 + f) = (x + 1023).toNat * 4503599627370496 + f by omega, show (((x + 1022).toNat : Nat) : Int) - 1074 = x - 52 by omega] at h
  exact h
theorem num_zero : Num 0 false 0 := by
  have := read_word false (r := 0) (by decide)
  rw [word_false, if_pos (by decide)] at this
  exact ⟨by decide, 0, -1074, this, by decide, by rw [show ((0 : Nat) : Rat) = 0 from rfl, Rat.zero_mul]⟩
theorem num_normal : Num 4503599627370496 false (p2 (-1022)) := by
  have h := num_bits (f := 0) (x := -1022) (by decide) (by decide) (by decide)
  have e : ((4503599627370496 + 0 : Nat) : Rat) * p2 (-1022 - 52) = p2 (-1022) := by
    rw [show ((4503599627370496 + 0 : Nat)) = 2 ^ 52 from by decide, ← p2_nat, ← p2_add]; rfl
  rw [e] at h
  exact h
theorem num_pow {x : Int} (h1 : -1022 ≤ x) (h2 : x ≤ 1023) : Num ((x + 1023).toNat * 4503599627370496) false (p2 x) := by
  have h := num_bits (f := 0) (x := x) (by decide) h1 h2
  have e : ((4503599627370496 + 0 : Nat) : Rat) * p2 (x - 52) = p2 x := by
    rw [show ((4503599627370496 + 0 : Nat)) = 2 ^ 52 from by decide, ← p2_nat, ← p2_add]; congr 1; omega
  rw [e, Nat.add_zero] at h
  exact h
end Go.Proofs.YtcbkijeonilcjaaGreat

/- Signed worths of finite floats: sums, products, nearest floats, how far they are off (plain). -/
namespace Go.Proofs.YtcbkijeonilcjaaGreat
open Ieee

/-- finite, and worth v -/
def Nv (b : Nat) (v : Rat) : Prop := ∃ s a, Num b s a ∧ sgq s a = v
/-- c is what is made of N: as near as a float can be -/
def Nr (N c : Rat) : Prop := (N = 0 → c = 0) ∧ ∀ B, Wi N B → Wi (2 * (c - N)) (p2 (-52) * B + p2 (-1074))
theorem sgq_zero (s : Bool) : sgq s 0 = 0 := by cases s <;> simp [sgq]
theorem sgq_eq_zero {s : Bool} {x : Rat} (h : sgq s x = 0) : x = 0 := by cases s <;> simp [sgq] at h <;> grind
theorem wi_sgq {u : Bool} {N B : Rat} (h0 : 0 ≤ N) : Wi (sgq u N) B ↔ N ≤ B := by
  constructor
  · rintro ⟨h1, h2⟩
    unfold sgq at h1 h2
    cases u <;> simp at h1 h2 <;> grind
  · intro h
    unfold Wi sgq
    cases u
    · exact ⟨by simp; grind, by simp; grind⟩
    · exact ⟨by simp; grind, by simp; grind⟩
theorem Off.nr {N c : Rat} (u : Bool) (h0 : 0 ≤ N) (h : Off N c) : Nr (sgq u N) (sgq u c) := by
  refine ⟨fun hz => by rw [h.2.2 (sgq_eq_zero hz), sgq_zero], ?_⟩
  intro B hB
  have e : p2 (-52) * N ≤ p2 (-52) * B := Rat.mul_le_mul_of_nonneg_left ((wi_sgq h0).1 hB) (Rat.le_of_lt (p2_pos _))
  obtain ⟨h1, h2, _⟩ := h
  unfold Wi sgq
  cases u <;> simp <;> constructor <;> grind
theorem Wi.mono {z c d : Rat} (h : Wi z c) (k : c ≤ d) : Wi z d := ⟨by have := h.1; grind, Rat.le_trans h.2 k⟩
theorem Wi.add {x y c d : Rat} (h : Wi x c) (k : Wi y d) : Wi (x + y) (c + d) := by
  obtain ⟨h1, h2⟩ := h
  obtain ⟨k1, k2⟩ := k
  constructor <;> grind
theorem Wi.neg {x c : Rat} (h : Wi x c) : Wi (-x) c := by
  obtain ⟨h1, h2⟩ := h
  constructor <;> grind
theorem Wi.sub {x y c d : Rat} (h : Wi x c) (k : Wi y d) : Wi (x - y) (c + d) := by
  rw [Rat.sub_eq_add_neg]; exact h.add k.neg
theorem Wi.nonneg {x c : Rat} (h : Wi x c) : 0 ≤ c := by
  obtain ⟨h1, h2⟩ := h
  grind
theorem wi_of (x : Rat) : ∃ s a, 0 ≤ a ∧ x = sgq s a := by
  by_cases h : 0 ≤ x
  · exact ⟨false, x, h, rfl⟩
  · exact ⟨true, -x, by grind, by simp [sgq]⟩
theorem wi_mul {x y c d : Rat} (h : Wi x c) (k : Wi y d) : Wi (x * y) (c * d) := by
  obtain ⟨s, a, ha, rfl⟩ := wi_of x
  obtain ⟨t, b, hb, rfl⟩ := wi_of y
  have h1 := (wi_sgq ha).1 h
  have k1 := (wi_sgq hb).1 k
  have e : sgq s a * sgq t b = sgq (s ^^ t) (a * b) := by unfold sgq; cases s <;> cases t <;> simp <;> grind
  rw [e, wi_sgq (Rat.mul_nonneg ha hb)]
  calc a * b ≤ c * b := Rat.mul_le_mul_of_nonneg_right h1 hb
    _ ≤ c * d := Rat.mul_le_mul_of_nonneg_left k1 (Rat.le_trans ha h1)

theorem nv_zero : Nv 0 0 := ⟨false, 0, num_zero, rfl⟩
theorem nv_add {x y : Nat} {a b : Rat} (hx : Nv x a) (hy : Nv y b) (k : Int) (hk0 : -1074 ≤ k) (hk : k ≤ 1023) (h : Wi (a + b) (p2 k)) :
    ∃ r c, floatBits .add .f64 x y = some r ∧ Nv r c ∧ Wi c (p2 k) ∧ Nr (a + b) c := by
  obtain ⟨s, a', h1, rfl⟩ := hx
  obtain ⟨t, b', h2, rfl⟩ := hy
  obtain ⟨r, u, N, c, q1, q2, q3, q4, q5, q6, _⟩ := fadd_num h1 h2 k hk0 hk h
  exact ⟨r, sgq u c, q1, ⟨u, c, q2, rfl⟩, Wi.sgq q2.nonneg q3, q5 ▸ q4.nr u q6⟩
theorem nv_sub {x y : Nat} {a b : Rat} (hx : Nv x a) (hy : Nv y b) (k : Int) (hk0 : -1074 ≤ k) (hk : k ≤ 1023) (h : Wi (a - b) (p2 k)) :
    ∃ r c, floatBits .sub .f64 x y = some r ∧ Nv r c ∧ Wi c (p2 k) ∧ Nr (a - b) c := by
  obtain ⟨s, a', h1, rfl⟩ := hx
  obtain ⟨t, b', h2, rfl⟩ := hy
  obtain ⟨r, u, N, c, q1, q2, q3, q4, q5, q6⟩ := fsub_num h1 h2 k hk0 hk h
  exact ⟨r, sgq u c, q1, ⟨u, c, q2, rfl⟩, Wi.sgq q2.nonneg q3, q5 ▸ q4.nr u q6⟩
theorem nv_mul {x y : Nat} {a b : Rat} (hx : Nv x a) (hy : Nv y b) (k : Int) (hk0 : -1074 ≤ k) (hk : k ≤ 1023) (h : Wi (a * b) (p2 k)) :
    ∃ r c, floatBits .mul .f64 x y = some r ∧ Nv r c ∧ Wi c (p2 k) ∧ Nr (a * b) c := by
  obtain ⟨s, a', h1, rfl⟩ := hx
  obtain ⟨t, b', h2, rfl⟩ := hy
  have e : sgq s a' * sgq t b' = sgq (s ^^ t) (a' * b') := by unfold sgq; cases s <;> cases t <;> simp <;> grind
  have h0 := Rat.mul_nonneg h1.nonneg h2.nonneg
  rw [e, wi_sgq h0] at h
  obtain ⟨r, c, q1, q2, q3, q4⟩ := fmul_num h1 h2 k hk0 hk h
  exact ⟨r, sgq (s ^^ t) c, q1, ⟨_, c, q2, rfl⟩, Wi.sgq q2.nonneg q3, e ▸ q4.nr _ h0⟩
/-- sums and products of what is not below 0 -/
theorem np_add {x y : Nat} {a b : Rat} (hx : Num x false a) (hy : Num y false b) (k : Int) (hk0 : -1074 ≤ k) (hk : k ≤ 1023) (h : a + b ≤ p2 k) :
    ∃ r c, floatBits .add .f64 x y = some r ∧ Num r false c ∧ c ≤ p2 k ∧ Off (a + b) c := by
  have h0 : 0 ≤ a + b := Rat.add_nonneg hx.nonneg hy.nonneg
  obtain ⟨r, u, N, c, q1, q2, q3, q4, q5, q6, q7⟩ := fadd_num hx hy k hk0 hk (show Wi (a + b) (p2 k) from ⟨by have := p2_pos k; grind, h⟩)
  obtain rfl := q7 rfl rfl
  have e : N = a + b := q5
  rw [e] at q4
  exact ⟨r, c, q1, q2, q3, q4⟩
theorem np_mul {x y : Nat} {a b : Rat} (hx : Num x false a) (hy : Num y false b) (k : Int) (hk0 : -1074 ≤ k) (hk : k ≤ 1023) (h : a * b ≤ p2 k) :
    ∃ r c, floatBits .mul .f64 x y = some r ∧ Num r false c ∧ c ≤ p2 k ∧ Off (a * b) c := fmul_num hx hy k hk0 hk h
theorem Nv.abs {x : Nat} {v : Rat} (h : Nv x v) : x < 18446744073709551616 ∧ ∃ s a, Num (x % 9223372036854775808) false a ∧ v = sgq s a := by
  obtain ⟨s, a, h, rfl⟩ := h
  exact ⟨h.1, s, a, (num_rung h).2.2.1, rfl⟩

/-- with its sign turned -/
theorem num_flip {X : Nat} {a : Rat} (h : Num X false a) : X < 9223372036854775808 ∧ Num (9223372036854775808 + X) true a := by
  obtain ⟨h1, h2, h3, _⟩ := num_rung h
  have hlt : X < 9223372036854775808 := by
    by_cases c : 9223372036854775808 ≤ X
    · rw [decide_eq_true c] at h2; exact absurd h2 (by decide)
    · omega
  refine ⟨hlt, by omega, ?_⟩
  obtain ⟨_, m, e, hr, he, hx⟩ := h
  have w1 := read_word false hlt
  have w2 := read_word true hlt
  rw [word_false, hr] at w1
  have e2 : double.word true X = 9223372036854775808 + X := by unfold Format.word; rw [dbl_sign, if_pos rfl]
  rw [e2] at w2
  by_cases k1 : X < 4503599627370496
  · rw [if_pos k1] at w1 w2
    injection w1 with q1 q2 q3
    subst q2 q3
    exact ⟨_, _, w2, he, hx⟩
  · rw [if_neg k1] at w1 w2
    by_cases k2 : X < 9218868437227405312
    · rw [if_pos k2] at w1 w2
      injection w1 with q1 q2 q3
      subst q2 q3
      exact ⟨_, _, w2, he, hx⟩
    · rw [if_neg k2] at w1
      by_cases k3 : X = 9218868437227405312
      · rw [if_pos k3] at w1; cases w1
      · rw [if_neg k3] at w1; cases w1
/-- a fraction: its sign and its size -/
theorem rat_size (r : Rat) : ∃ q, 0 ≤ q ∧ r = sgq (rneg r) q ∧ q * (r.den : Rat) = (rnum r : Rat) := by
  have hd : (0 : Rat) < (r.den : Rat) := Rat.natCast_pos.2 r.den_pos
  have h1 : r * (r.den : Rat) = (r.num : Rat) := by
    have e := Rat.mkRat_eq_div r.num r.den
    rw [Rat.mkRat_self] at e
    rw [e]
    have e2 : ∀ n : Rat, n / (r.den : Rat) * (r.den : Rat) = n := fun n => Rat.div_mul_cancel (by grind)
    have e3 := e2 (r.num : Rat)
    rw [← e] at e3 ⊢
    exact e3
  have h2 := sg_rat r
  cases hg : rneg r
  · refine ⟨r, rneg_iff'.1 hg, rfl, ?_⟩
    rw [h1, ← h2, hg]; rfl
  · have := rneg_iff.1 hg
    refine ⟨-r, by grind, by simp [sgq], ?_⟩
    rw [Rat.neg_mul, h1, ← h2, hg]
    show -((-((rnum r : Nat) : Int) : Int) : Rat) = _
    rw [Rat.intCast_neg, Rat.intCast_natCast, Rat.neg_neg]
theorem le_of_mul_den {q y c : Rat} (hy : 0 < y) (h : q * y ≤ c * y) : q ≤ c := Rat.le_of_mul_le_mul_right h hy
theorem lt_of_mul_den {q y c : Rat} (hy : 0 < y) (h : q * y < c * y) : q < c := Rat.lt_of_mul_lt_mul_right h (Rat.le_of_lt hy)
theorem div_bd {m q c y E : Rat} (hy : 0 < y) (h : 2 * (m * c * y) ≤ 2 * (q * y) + c * y) (hE : c ≤ E) : 2 * (m * c) ≤ 2 * q + E := by
  have e : (2 * (m * c)) * y ≤ (2 * q + c) * y := by grind
  have := le_of_mul_den hy e
  grind
theorem div_bd' {m q c y E : Rat} (hy : 0 < y) (h : 2 * (q * y) ≤ 2 * (m * c * y) + c * y) (hE : c ≤ E) : 2 * q ≤ 2 * (m * c) + E := by
  have e : (2 * q) * y ≤ (2 * (m * c) + c) * y := by grind
  have := le_of_mul_den hy e
  grind
/-- the nearest float of a fraction -/
theorem flo_nv {r : Rat} (k : Int) (hk0 : -1074 ≤ k) (hk : k ≤ 900) (h : Wi r (p2 k)) :
    (rnum r = 0 ∨ fexp (rnum r) r.den ≤ k) ∧ ∃ F c, flo (rneg r) (rnum r) r.den = some F ∧ Nv F c ∧ Wi c (p2 k) ∧ Nr r c := by
  obtain ⟨q, hq0, hrq, hqd⟩ := rat_size r
  have hB : q ≤ p2 k := by rw [hrq] at h; exact (wi_sgq hq0).1 h
  have hy0 : 0 < r.den := r.den_pos
  have hyr : (0 : Rat) < (r.den : Rat) := Rat.natCast_pos.2 hy0
  generalize rnum r = x at *
  generalize r.den = y at *
  generalize rneg r = g at *
  subst hrq
  have hp := p2_pos k
  by_cases hx0 : x = 0
  · refine ⟨.inl hx0, 0, 0, by unfold flo; rw [if_pos hx0], nv_zero, ⟨by grind, by grind⟩, ?_⟩
    have e0 : q = 0 := by
      rw [hx0, show ((0 : Nat) : Rat) = 0 from rfl] at hqd
      rcases Rat.mul_eq_zero.1 hqd with h | h
      · exact h
      · grind
    subst e0
    refine ⟨fun _ => rfl, ?_⟩
    intro B hB'
    have h0 := hB'.nonneg
    have h1 : 0 ≤ p2 (-52) * B := Rat.mul_nonneg (Rat.le_of_lt (p2_pos _)) h0
    have h2 := p2_pos (-1074)
    unfold sgq
    cases g <;> simp <;> constructor <;> grind
  · obtain ⟨f1, f2⟩ := fexp_spec (Nat.pos_of_ne_zero hx0) hy0
    rw [← hqd] at f1 f2
    have g1 := le_of_mul_den hyr f1
    have g2 := lt_of_mul_den hyr f2
    have hf : fexp x y ≤ k := p2_le (Rat.le_trans g1 hB)
    refine ⟨.inr hf, ?_⟩
    unfold flo
    rw [if_neg hx0, if_neg (by omega)]
    by_cases hl : fexp x y < -1075
    · rw [if_pos hl]
      refine ⟨0, 0, rfl, nv_zero, ⟨by grind, by grind⟩, fun _ => rfl, ?_⟩
      intro B hB'
      have h0 := hB'.nonneg
      have h1 : 0 ≤ p2 (-52) * B := Rat.mul_nonneg (Rat.le_of_lt (p2_pos _)) h0
      have h2 := p2_pos (-1074)
      have h3 : p2 (fexp x y + 1) ≤ p2 (-1075) := p2_mono (by omega)
      have h4 : p2 (-1074) = 2 * p2 (-1075) := by rw [← p2_succ]; rfl
      have h5 : 2 * q ≤ p2 (-1074) := by grind
      unfold sgq
      cases g <;> simp <;> constructor <;> grind
    · rw [if_neg hl]
      obtain ⟨s1, s2⟩ := fman_spec (x := x) hy0
      rw [← hqd] at s1 s2
      have hm := fman_le (Nat.pos_of_ne_zero hx0) hy0
      have hpl := fpl_bd (x := x) (y := y) (by omega)
      have hplk : fpl x y ≤ k := by unfold fpl; omega
      have hE : p2 (fpl x y) ≤ p2 (-52) * q + p2 (-1074) := by
        have e1 : 0 ≤ p2 (-52) * q := Rat.mul_nonneg (Rat.le_of_lt (p2_pos _)) hq0
        have e2 := p2_pos (-1074)
        have e3 : p2 (-52) * p2 (fexp x y) ≤ p2 (-52) * q := Rat.mul_le_mul_of_nonneg_left g1 (Rat.le_of_lt (p2_pos _))
        rw [← p2_add] at e3
        unfold fpl
        rcases Int.le_total (fexp x y - 52) (-1074) with h | h
        · rw [Int.max_eq_right h]; grind
        · rw [Int.max_eq_left h, show fexp x y - 52 = -52 + fexp x y from by omega]; grind
      have d1 := div_bd hyr s1 hE
      have d2 := div_bd' hyr s2 hE
      have hM : fman x y ≤ 2 ^ (k - fpl x y).toNat := by
        refine nat_le_of_rat (p2_pos (fpl x y)) ?_
        rw [← p2_nat, ← p2_add, show ((k - fpl x y).toNat : Int) + fpl x y = k from by omega]
        have := div_bd hyr s1 Rat.le_refl
        grind
      have hv : (fman x y : Rat) * p2 (fpl x y) ≤ p2 k := by
        have := Rat.mul_le_mul_of_nonneg_right (Rat.natCast_le_natCast.2 hM) (Rat.le_of_lt (p2_pos (fpl x y)))
        rw [← p2_nat, ← p2_add, show ((k - fpl x y).toNat : Int) + fpl x y = k from by omega] at this
        exact this
      have hv0 : 0 ≤ (fman x y : Rat) * p2 (fpl x y) := Rat.mul_nonneg Rat.natCast_nonneg (Rat.le_of_lt (p2_pos _))
      have hnr : Nr (sgq g q) (sgq g ((fman x y : Rat) * p2 (fpl x y))) := Off.nr g hq0 ⟨by grind, by grind, fun hz => absurd g1 (by rw [hz]; exact Rat.not_le.2 (p2_pos _))⟩
      generalize fpl x y = pl at *
      generalize fman x y = m at *
      clear s1 s2 d1 d2 hM hE f1 f2 g1 g2
      by_cases h0 : m = 0
      · subst h0
        rw [show ((0 : Nat) : Rat) = 0 from rfl, Rat.zero_mul] at hnr hv hv0
        have e : double.nearest false 0 pl = 0 := by unfold Format.nearest; rw [if_pos rfl]; rfl
        rw [e, if_neg (by decide), if_neg (by simp)]
        refine ⟨0, 0, rfl, nv_zero, ⟨by grind, by grind⟩, ?_⟩
        have e0 : sgq g 0 = 0 := by cases g <;> simp [sgq]
        rw [e0] at hnr
        exact hnr
      · have hN := exact_num false pl k h0 hm (by omega) hk0 (by omega) hv
        obtain ⟨hr, hs, _, _⟩ := num_rung hN
        obtain ⟨hlt, hfl⟩ := num_flip hN
        generalize double.nearest false m pl = X at *
        rw [if_neg (by omega)]
        cases g
        · rw [if_neg (by simp)]
          exact ⟨X, _, rfl, ⟨false, _, hN, rfl⟩, Wi.sgq hv0 hv, hnr⟩
        · have hX : X ≠ 0 := by
            intro hz
            rw [hz] at hN
            have hz1 := num_zero
            have o1 := order_num hN hz1
            have o2 := order_self hz1
            rw [o2] at o1
            have hpos : 0 < (m : Rat) * p2 pl := Rat.mul_pos (Rat.natCast_pos.2 (Nat.pos_of_ne_zero h0)) (p2_pos _)
            rw [show sgq false ((m : Rat) * p2 pl) = (m : Rat) * p2 pl from rfl, show sgq false (0 : Rat) = 0 from rfl, if_neg (by grind), if_neg (by grind)] at o1
            cases o1
          rw [if_pos ⟨rfl, hX⟩]
          exact ⟨_, _, rfl, ⟨true, _, hfl, rfl⟩, Wi.sgq hv0 hv, hnr⟩

/-- the next word: finite, and worth more -/
theorem num_next {x : Nat} {a : Rat} (h : Num x false a) (hb : a ≤ p2 1000) : x < 9218868437227405311 ∧ a ≠ 9007199254740991 * p2 971 ∧ ∃ a', Num (x + 1) false a' ∧ a < a' := by
  obtain ⟨h1, h2, h3, h4⟩ := num_rung h
  have hlt := (num_flip h).1
  have hne : a ≠ 9007199254740991 * p2 971 := by
    intro e
    rw [e] at hb
    have e1 : p2 1000 = 536870912 * p2 971 := by
      rw [show (1000 : Int) = 29 + 971 from rfl, p2_add, show p2 29 = 536870912 from by decide +kernel]
    rw [e1] at hb
    have := p2_pos 971
    grind
  have hx : x ≠ 9218868437227405311 := by
    intro e
    subst e
    have o1 := order_num h num_greatest
    rw [order_self h] at o1
    rw [show sgq false a = a from rfl, show sgq false (9007199254740991 * p2 971) = 9007199254740991 * p2 971 from rfl] at o1
    by_cases c : a < 9007199254740991 * p2 971
    · rw [if_pos c] at o1; cases o1
    · rw [if_neg c, if_neg hne] at o1; cases o1
  rw [Nat.mod_eq_of_lt hlt] at h1
  refine ⟨by omega, hne, ?_⟩
  obtain ⟨_, m, e, hr, he, hv⟩ := h
  have w1 := read_word false hlt
  rw [word_false, hr] at w1
  by_cases k1 : x < 4503599627370496
  · rw [if_pos k1] at w1
    injection w1 with q1 q2 q3
    subst q2 q3
    have h5 := rung_num false (L := 0) (k := m + 1) (by omega) (.inl rfl) (by omega)
    rw [word_false, Nat.zero_mul, Nat.zero_add] at h5
    refine ⟨_, h5, ?_⟩
    rw [← hv]
    have := p2_pos (-1074)
    have e9 : ((m + 1 : Nat) : Rat) = (m : Rat) + 1 := by rw [Rat.natCast_add]; rfl
    rw [e9, show (((0 : Nat) : Int) - 1074) = -1074 from rfl]
    grind
  · rw [if_neg k1, if_pos h1] at w1
    injection w1 with q1 q2 q3
    have h5 := rung_num false (L := x / 4503599627370496 - 1) (k := m + 1) (by omega) (.inr (by omega)) (by omega)
    rw [word_false, show (x / 4503599627370496 - 1) * 4503599627370496 + (m + 1) = x + 1 from by omega] at h5
    refine ⟨_, h5, ?_⟩
    rw [← hv, q3, show (((x / 4503599627370496 - 1 : Nat) : Int) - 1074) = -1074 + ((x / 4503599627370496 - 1 : Nat) : Int) from by omega]
    have := p2_pos (-1074 + ((x / 4503599627370496 - 1 : Nat) : Int))
    have e9 : ((m + 1 : Nat) : Rat) = (m : Rat) + 1 := by rw [Rat.natCast_add]; rfl
    rw [e9]
    grind
theorem num_eq_zero {x : Nat} (h : Num x false 0) : x = 0 := by
  have hlt := (num_flip h).1
  obtain ⟨_, m, e, hr, he, hv⟩ := h
  have w1 := read_word false hlt
  rw [word_false, hr] at w1
  have hm : m = 0 := by
    rcases Rat.mul_eq_zero.1 hv with h | h
    · have : ((m : Nat) : Rat) = ((0 : Nat) : Rat) := h
      exact Rat.natCast_inj.1 this
    · have := p2_pos e; grind
  by_cases k1 : x < 4503599627370496
  · rw [if_pos k1] at w1
    injection w1 with q1 q2 q3
    omega
  · rw [if_neg k1] at w1
    by_cases k2 : x < 9218868437227405312
    · rw [if_pos k2] at w1
      injection w1 with q1 q2 q3
      omega
    · rw [if_neg k2] at w1
      by_cases k3 : x = 9218868437227405312
      · rw [if_pos k3] at w1; cases w1
      · rw [if_neg k3] at w1; cases w1
end Go.Proofs.YtcbkijeonilcjaaGreat
