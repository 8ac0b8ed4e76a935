/- Floats of 64 bits: what a word is worth, and what rounding does to it (plain). -/
import Derived.Test.YtcbkijeonilcjaaGreatHC3
import Derived.Laws.FloatArith
namespace Go.Proofs.YtcbkijeonilcjaaGreat
open Ieee

def p2 (e : Int) : Rat := (2 : Rat) ^ e
theorem p2_pos (e : Int) : 0 < p2 e := Rat.zpow_pos (by decide)
theorem p2_add (a b : Int) : p2 (a + b) = p2 a * p2 b := Rat.zpow_add (by decide) a b
theorem p2_zero : p2 0 = 1 := Rat.zpow_zero 2
theorem p2_nat (n : Nat) : p2 (n : Int) = ((2 ^ n : Nat) : Rat) := by
  unfold p2; rw [Rat.zpow_natCast, Rat.natCast_pow]; rfl
theorem p2_one : p2 1 = 2 := Rat.zpow_one 2
theorem p2_succ (a : Int) : p2 (a + 1) = 2 * p2 a := by rw [p2_add, p2_one, Rat.mul_comm]
theorem one_le_two_pow (n : Nat) : (1 : Rat) ≤ ((2 ^ n : Nat) : Rat) := by
  have h : 1 ≤ 2 ^ n := Nat.one_le_two_pow
  exact_mod_cast Rat.natCast_le_natCast.2 h
theorem p2_mono {a b : Int} (h : a ≤ b) : p2 a ≤ p2 b := by
  obtain ⟨n, rfl⟩ : ∃ n : Nat, b = a + n := ⟨(b - a).toNat, by omega⟩
  rw [p2_add, p2_nat]
  have h1 := one_le_two_pow n
  have h2 := Rat.mul_le_mul_of_nonneg_left h1 (Rat.le_of_lt (p2_pos a))
  rw [Rat.mul_one] at h2
  exact h2
theorem p2_lt {a b : Int} (h : p2 a < p2 b) : a < b := by
  rcases Int.lt_or_le a b with h1 | h1
  · exact h1
  · exact absurd h (Rat.not_lt.2 (p2_mono h1))
theorem p2_le {a b : Int} (h : p2 a ≤ p2 b) : a ≤ b := by
  rcases Int.lt_or_le b a with h1 | h1
  · have h2 : p2 (b + 1) ≤ p2 a := p2_mono (by omega)
    rw [p2_succ] at h2
    have := p2_pos b
    grind
  · exact h1

theorem dbl_least : double.leastPlace = -1074 := by decide
theorem dbl_binade : double.binade = 4503599627370496 := by decide
theorem dbl_inf : double.infRung = 9218868437227405312 := by decide
theorem dbl_sign : double.signWeight = 9223372036854775808 := by decide
theorem dbl_frac : double.fractionBits = 52 := rfl
theorem two52 : (2 : Nat) ^ 52 = 4503599627370496 := by decide
theorem two53 : (2 : Nat) ^ 53 = 9007199254740992 := by decide

/-- rounding to a whole number is off by at most one half -/
theorem cut_even (neg : Bool) (n drop : Nat) :
    2 * (Toward.even.cut neg n drop * 2 ^ drop) ≤ 2 * n + 2 ^ drop ∧ 2 * n ≤ 2 * (Toward.even.cut neg n drop * 2 ^ drop) + 2 ^ drop := by
  unfold Toward.cut
  simp only [Nat.one_shiftLeft]
  by_cases hd : drop ≤ n.log2 + 2
  · rw [Nat.min_eq_left hd]
    have hG : 0 < 2 ^ drop := Nat.two_pow_pos drop
    generalize 2 ^ drop = G at *
    have hdm := Nat.div_add_mod n G
    have hm := Nat.mod_lt n hG
    generalize n / G = q at *
    generalize n % G = r at *
    by_cases h1 : (decide (G < 2 * r) || (G == 2 * r && q % 2 == 1)) = true
    · rw [h1]
      have h2 : G ≤ 2 * r := by
        simp at h1; omega
      have h3 : (q + true.toNat) * G = G * q + G := by simp only [Bool.toNat_true]; rw [Nat.add_mul, Nat.one_mul, Nat.mul_comm]
      rw [h3]; omega
    · rw [Bool.not_eq_true] at h1
      rw [h1]
      have h2 : 2 * r ≤ G := by
        simp at h1; omega
      have h3 : (q + false.toNat) * G = G * q := by simp only [Bool.toNat_false]; rw [Nat.add_zero, Nat.mul_comm]
      rw [h3]; omega
  · rw [Nat.min_eq_right (by omega)]
    have hn : n < 2 ^ (n.log2 + 1) := Nat.lt_log2_self
    have e2 : 2 ^ (n.log2 + 2) = 2 * 2 ^ (n.log2 + 1) := by rw [Nat.pow_succ, Nat.mul_comm]
    have hlt : n < 2 ^ (n.log2 + 2) := by omega
    rw [Nat.div_eq_of_lt hlt, Nat.mod_eq_of_lt hlt]
    have h1 : (decide (2 ^ (n.log2 + 2) < 2 * n) || (2 ^ (n.log2 + 2) == 2 * n && 0 % 2 == 1)) = false := by
      simp; omega
    rw [h1]
    have h3 : 2 ^ (n.log2 + 2) ≤ 2 ^ drop := Nat.pow_le_pow_right (by omega) (by omega)
    simp only [Bool.toNat_false, Nat.add_zero, Nat.zero_mul, Nat.mul_zero, Nat.zero_add]
    omega

def lastP (mag : Nat) (place : Int) : Int := max (place + mag.log2 - 52) (-1074)
def keptP (neg : Bool) (mag : Nat) (place : Int) : Nat := Toward.even.cut neg (mag <<< (place - lastP mag place).toNat) (lastP mag place - place).toNat
theorem nearest_def {mag : Nat} (neg : Bool) (place : Int) (h : mag ≠ 0) :
    double.nearest neg mag place = double.word neg (min ((lastP mag place + 1074).toNat * 4503599627370496 + keptP neg mag place) 9218868437227405312) := by
  unfold Format.nearest
  rw [if_neg h]
  simp only [dbl_least, dbl_binade, dbl_inf, dbl_frac]
  unfold keptP lastP
  simp only [Int.sub_neg]
  rfl

theorem kept_spec (neg : Bool) (mag : Nat) (place : Int) :
    2 * ((keptP neg mag place : Rat) * p2 (lastP mag place)) ≤ 2 * ((mag : Rat) * p2 place) + p2 (lastP mag place) ∧
    2 * ((mag : Rat) * p2 place) ≤ 2 * ((keptP neg mag place : Rat) * p2 (lastP mag place)) + p2 (lastP mag place) := by
  unfold keptP
  generalize hl : lastP mag place = l
  obtain ⟨a, ha⟩ : ∃ a : Nat, a = (place - l).toNat := ⟨_, rfl⟩
  obtain ⟨d, hd⟩ : ∃ d : Nat, d = (l - place).toNat := ⟨_, rfl⟩
  rw [← ha, ← hd]
  obtain ⟨c1, c2⟩ := cut_even neg (mag <<< a) d
  generalize Toward.even.cut neg (mag <<< a) d = k at *
  rw [Nat.shiftLeft_eq] at c1 c2
  have hpl : place = l - d + a := by omega
  have q1 : p2 l = ((2 ^ d : Nat) : Rat) * p2 (l - d) := by rw [← p2_nat, ← p2_add]; congr 1; omega
  have q2 : p2 place = ((2 ^ a : Nat) : Rat) * p2 (l - d) := by rw [← p2_nat, ← p2_add]; congr 1; omega
  have hc := p2_pos (l - d)
  generalize p2 (l - d) = c at *
  rw [q1, q2]
  have r1 : (2 * (k * 2 ^ d) : Nat) ≤ 2 * (mag * 2 ^ a) + 2 ^ d := c1
  have r2 : 2 * (mag * 2 ^ a) ≤ 2 * (k * 2 ^ d) + 2 ^ d := c2
  have r1' := Rat.mul_le_mul_of_nonneg_right (Rat.natCast_le_natCast.2 r1) (Rat.le_of_lt hc)
  have r2' := Rat.mul_le_mul_of_nonneg_right (Rat.natCast_le_natCast.2 r2) (Rat.le_of_lt hc)
  simp only [Rat.natCast_add, Rat.natCast_mul] at r1' r2'
  constructor <;> grind

theorem nat_le_of_rat {k M : Nat} {c : Rat} (hc : 0 < c) (h : 2 * ((k : Rat) * c) ≤ 2 * ((M : Rat) * c) + c) : k ≤ M := by
  rcases Nat.lt_or_ge M k with h1 | h1
  · have h2 : ((M + 1 : Nat) : Rat) ≤ (k : Rat) := Rat.natCast_le_natCast.2 h1
    have h3 := Rat.mul_le_mul_of_nonneg_right h2 (Rat.le_of_lt hc)
    simp only [Rat.natCast_add] at h3
    grind
  · exact h1
theorem mag_log {mag : Nat} (h : mag ≠ 0) (place : Int) : p2 (place + mag.log2) ≤ (mag : Rat) * p2 place ∧ (mag : Rat) * p2 place < p2 (place + mag.log2 + 1) := by
  have h1 : 2 ^ mag.log2 ≤ mag := Nat.log2_self_le h
  have h2 : mag < 2 ^ (mag.log2 + 1) := Nat.lt_log2_self
  have hc := p2_pos place
  constructor
  · rw [Int.add_comm, p2_add, p2_nat]
    exact Rat.mul_le_mul_of_nonneg_right (Rat.natCast_le_natCast.2 h1) (Rat.le_of_lt hc)
  · rw [show place + (mag.log2 : Int) + 1 = ((mag.log2 + 1 : Nat) : Int) + place from by omega, p2_add, p2_nat]
    exact Rat.mul_lt_mul_of_pos_right (Rat.natCast_lt_natCast.2 h2) hc

theorem last_ge (mag : Nat) (place : Int) : -1074 ≤ lastP mag place := by unfold lastP; omega
theorem kept_le {mag : Nat} (neg : Bool) (place : Int) {M : Nat} (h : (mag : Rat) * p2 place ≤ (M : Rat) * p2 (lastP mag place)) : keptP neg mag place ≤ M := by
  have := (kept_spec neg mag place).1
  exact nat_le_of_rat (p2_pos (lastP mag place)) (by grind)
theorem kept_ge {mag : Nat} (neg : Bool) (place : Int) {M : Nat} (h : (M : Rat) * p2 (lastP mag place) ≤ (mag : Rat) * p2 place) : M ≤ keptP neg mag place := by
  have := (kept_spec neg mag place).2
  exact nat_le_of_rat (p2_pos (lastP mag place)) (by grind)
theorem kept_53 {mag : Nat} (h : mag ≠ 0) (neg : Bool) (place : Int) : keptP neg mag place ≤ 9007199254740992 := by
  refine kept_le neg place ?_
  have h1 := (mag_log h place).2
  have h2 : p2 (place + mag.log2 + 1) ≤ p2 (53 + lastP mag place) := p2_mono (by unfold lastP; omega)
  rw [p2_add 53] at h2
  have h3 : p2 53 = 9007199254740992 := by decide +kernel
  rw [h3] at h2
  exact Rat.le_of_lt (by grind)
theorem kept_52 {mag : Nat} (h : mag ≠ 0) (neg : Bool) (place : Int) : lastP mag place = -1074 ∨ 4503599627370496 ≤ keptP neg mag place := by
  by_cases hl : lastP mag place = -1074
  · exact .inl hl
  · refine .inr (kept_ge neg place ?_)
    have h1 := (mag_log h place).1
    have h2 : p2 (52 + lastP mag place) ≤ p2 (place + mag.log2) := p2_mono (by unfold lastP at *; omega)
    rw [p2_add 52] at h2
    have h3 : p2 52 = 4503599627370496 := by decide +kernel
    rw [h3] at h2
    grind

/-- a datum's worth, without its sign -/
def mv : Datum → Rat
  | .number _ m e => (m : Rat) * p2 e
  | _ => 0
def sgq (s : Bool) (x : Rat) : Rat := if s then -x else x
/-- what a finite word is worth -/
def fv (b : Nat) : Rat := sgq (double.read b).neg (mv (double.read b))
/-- finite, with this sign and size -/
def Num (b : Nat) (s : Bool) (x : Rat) : Prop := b < 18446744073709551616 ∧ ∃ m e, double.read b = .number s m e ∧ -1074 ≤ e ∧ (m : Rat) * p2 e = x
theorem Num.fv {b : Nat} {s : Bool} {x : Rat} (h : Num b s x) : Go.Proofs.YtcbkijeonilcjaaGreat.fv b = sgq s x := by
  obtain ⟨_, m, e, h1, _, h2⟩ := h
  unfold Go.Proofs.YtcbkijeonilcjaaGreat.fv
  rw [h1]; simp only [Datum.neg, mv]; rw [h2]
theorem Num.nonneg {b : Nat} {s : Bool} {x : Rat} (h : Num b s x) : 0 ≤ x := by
  obtain ⟨_, m, e, _, _, h2⟩ := h
  rw [← h2]
  exact Rat.mul_nonneg Rat.natCast_nonneg (Rat.le_of_lt (p2_pos e))

theorem word_lt64 (s : Bool) {r : Nat} (h : r < 9223372036854775808) : double.word s r < 18446744073709551616 := by
  unfold Format.word; rw [dbl_sign]; split <;> omega
theorem word_parts (s : Bool) {r : Nat} (h : r < 9223372036854775808) : (double.word s r / 9223372036854775808 % 2 == 1) = s ∧ double.word s r % 9223372036854775808 = r := by
  unfold Format.word; rw [dbl_sign]
  cases s
  · rw [if_neg (by simp)]
    refine ⟨?_, by omega⟩
    rw [Nat.div_eq_of_lt h]; rfl
  · rw [if_pos rfl]
    refine ⟨?_, by omega⟩
    rw [show (9223372036854775808 + r) / 9223372036854775808 = 1 from by omega]; rfl
theorem read_word (s : Bool) {r : Nat} (h : r < 9223372036854775808) :
    double.read (double.word s r) = if r < 4503599627370496 then .number s r (-1074) else if r < 9218868437227405312 then .number s (4503599627370496 + r % 4503599627370496) (-1074 + (r / 4503599627370496 - 1 : Nat)) else if r = 9218868437227405312 then .infinity s else .nan s (r - 9218868437227405312) := by
  unfold Format.read
  rw [dbl_sign, dbl_binade, dbl_inf, dbl_least]
  obtain ⟨h1, h2⟩ := word_parts s h
  simp only [h1, h2]

/-- of a place and what is kept: the word, and its worth -/
theorem rung_num (s : Bool) {L k : Nat} (hk : k ≤ 9007199254740992) (h : L = 0 ∨ 4503599627370496 ≤ k) (hf : L * 4503599627370496 + k < 9218868437227405312) :
    Num (double.word s (L * 4503599627370496 + k)) s ((k : Rat) * p2 ((L : Int) - 1074)) := by
  refine ⟨word_lt64 s (by omega), ?_⟩
  rw [read_word s (by omega)]
  by_cases h1 : L * 4503599627370496 + k < 4503599627370496
  · rw [if_pos h1]
    obtain rfl : L = 0 := by omega
    refine ⟨_, _, rfl, by omega, ?_⟩
    rw [Nat.zero_mul, Nat.zero_add]; rfl
  · rw [if_neg h1, if_pos hf]
    refine ⟨_, _, rfl, by omega, ?_⟩
    by_cases h2 : k = 9007199254740992
    · have e1 : (L * 4503599627370496 + k) % 4503599627370496 = 0 := by omega
      have e2 : (L * 4503599627370496 + k) / 4503599627370496 - 1 = L + 1 := by omega
      rw [e1, e2, h2]
      rw [show (-1074 : Int) + ((L + 1 : Nat) : Int) = ((L : Int) - 1074) + 1 from by omega, p2_succ]
      generalize p2 ((L : Int) - 1074) = c
      have : ((4503599627370496 + 0 : Nat) : Rat) = 4503599627370496 := rfl
      have h9 : ((9007199254740992 : Nat) : Rat) = 9007199254740992 := rfl
      rw [this, h9]; grind
    · have e1 : 4503599627370496 + (L * 4503599627370496 + k) % 4503599627370496 = k := by omega
      have e2 : (L * 4503599627370496 + k) / 4503599627370496 - 1 = L := by omega
      rw [e1, e2, show (-1074 : Int) + (L : Int) = (L : Int) - 1074 from by omega]

/-- a number below a power of two: what the nearest word is worth -/
theorem near_num (neg : Bool) {mag : Nat} (place k : Int) (h0 : mag ≠ 0) (hk0 : -1074 ≤ k) (hk : k ≤ 1023) (h : (mag : Rat) * p2 place ≤ p2 k) :
    double.nearest neg mag place = double.word neg ((lastP mag place + 1074).toNat * 4503599627370496 + keptP neg mag place) ∧ (lastP mag place + 1074).toNat * 4503599627370496 + keptP neg mag place < 9218868437227405312 ∧
    Num (double.nearest neg mag place) neg ((keptP neg mag place : Rat) * p2 (lastP mag place)) ∧ (keptP neg mag place : Rat) * p2 (lastP mag place) ≤ p2 k := by
  have hl := last_ge mag place
  have hlk : place + mag.log2 ≤ k := p2_le (by have := (mag_log h0 place).1; grind)
  have hlk2 : lastP mag place ≤ k := by unfold lastP; omega
  have hM : keptP neg mag place ≤ 2 ^ (k - lastP mag place).toNat := by
    refine kept_le neg place ?_
    rw [← p2_nat, ← p2_add]
    rw [show ((k - lastP mag place).toNat : Int) + lastP mag place = k from by omega]
    exact h
  have h53 := kept_53 h0 neg place
  have h52 := kept_52 h0 neg place
  have hv : (keptP neg mag place : Rat) * p2 (lastP mag place) ≤ p2 k := by
    have := Rat.mul_le_mul_of_nonneg_right (Rat.natCast_le_natCast.2 hM) (Rat.le_of_lt (p2_pos (lastP mag place)))
    rw [← p2_nat, ← p2_add, show ((k - lastP mag place).toNat : Int) + lastP mag place = k from by omega] at this
    exact this
  have hL : (lastP mag place + 1074).toNat ≤ 2045 := by unfold lastP; omega
  have hf : (lastP mag place + 1074).toNat * 4503599627370496 + keptP neg mag place < 9218868437227405312 := by
    by_cases h5 : (lastP mag place + 1074).toNat = 2045
    · have : lastP mag place = 971 := by omega
      have h6 : keptP neg mag place ≤ 4503599627370496 := by
        rw [this] at hM
        refine Nat.le_trans hM ?_
        rw [← two52]
        exact Nat.pow_le_pow_right (by omega) (by omega)
      omega
    · omega
  have e1 := nearest_def neg place h0
  rw [Nat.min_eq_left (by omega)] at e1
  refine ⟨e1, hf, ?_, hv⟩
  rw [e1]
  have := rung_num neg (L := (lastP mag place + 1074).toNat) (k := keptP neg mag place) h53 (by rcases h52 with h | h; exact .inl (by omega); exact .inr h) hf
  rw [show (((lastP mag place + 1074).toNat : Nat) : Int) - 1074 = lastP mag place from by omega] at this
  exact this
end Go.Proofs.YtcbkijeonilcjaaGreat

/- Floats of 64 bits: sums and products, and how far they are off (plain). -/
namespace Go.Proofs.YtcbkijeonilcjaaGreat
open Ieee

/-- as near as a float can be: c is what is made of the size N -/
def Off (N c : Rat) : Prop := 2 * c ≤ 2 * N + p2 (-52) * N + p2 (-1074) ∧ 2 * N ≤ 2 * c + p2 (-52) * N + p2 (-1074) ∧ (N = 0 → c = 0)
theorem last_off {mag : Nat} (h : mag ≠ 0) (place : Int) : p2 (lastP mag place) ≤ p2 (-52) * ((mag : Rat) * p2 place) + p2 (-1074) := by
  have h1 := (mag_log h place).1
  have h2 := p2_pos (-1074)
  have h3 := p2_pos (-52)
  have h4 : p2 (-52) * p2 (place + mag.log2) ≤ p2 (-52) * ((mag : Rat) * p2 place) := Rat.mul_le_mul_of_nonneg_left h1 (Rat.le_of_lt h3)
  have h5 : 0 ≤ p2 (-52) * ((mag : Rat) * p2 place) := Rat.mul_nonneg (Rat.le_of_lt h3) (Rat.mul_nonneg Rat.natCast_nonneg (Rat.le_of_lt (p2_pos _)))
  rw [← p2_add] at h4
  unfold lastP
  rcases Int.le_total (place + mag.log2 - 52) (-1074) with h | h
  · rw [Int.max_eq_right h]; grind
  · rw [Int.max_eq_left h, show place + (mag.log2 : Int) - 52 = -52 + (place + mag.log2) from by omega]; grind

/-- a number below a power of two, rounded -/
theorem near_full (neg : Bool) (mag : Nat) (place k : Int) (hk0 : -1074 ≤ k) (hk : k ≤ 1023) (h : (mag : Rat) * p2 place ≤ p2 k) :
    ∃ c, Num (double.nearest neg mag place) neg c ∧ c ≤ p2 k ∧ Off ((mag : Rat) * p2 place) c := by
  by_cases h0 : mag = 0
  · subst h0
    refine ⟨0, ?_, Rat.le_of_lt (p2_pos k), ?_⟩
    · have := rung_num neg (L := 0) (k := 0) (by omega) (.inl rfl) (by omega)
      unfold Format.nearest
      rw [if_pos rfl]
      simpa using this
    · unfold Off
      have := p2_pos (-1074)
      refine ⟨?_, ?_, fun _ => rfl⟩ <;> (simp; grind)
  · obtain ⟨h1, h2, h3, h4⟩ := near_num neg place k h0 hk0 hk h
    refine ⟨_, h3, h4, ?_⟩
    have h5 := kept_spec neg mag place
    have h6 := last_off h0 place
    unfold Off
    refine ⟨?_, ?_, fun hz => ?_⟩
    · have := h5.1; grind
    · have := h5.2; grind
    · have h7 := (mag_log h0 place).1
      rw [hz] at h7
      exact absurd h7 (Rat.not_le.2 (p2_pos _))

def signedR (s : Bool) (m : Nat) : Rat := sgq s (m : Rat)
theorem signed_rat (s : Bool) (m up : Nat) (base : Int) : ((signed s m up : Int) : Rat) * p2 base = sgq s ((m : Rat) * p2 (base + up)) := by
  rw [Int.add_comm base, p2_add, p2_nat]
  unfold signed sgq
  rw [Nat.shiftLeft_eq]
  cases s
  · simp only [Bool.false_eq_true, if_false, Rat.intCast_natCast, Rat.natCast_mul]; grind
  · simp only [if_true, Rat.intCast_neg, Rat.intCast_natCast, Rat.natCast_mul]; grind
theorem natAbs_rat (z : Int) : ((z.natAbs : Nat) : Rat) = if z < 0 then -(z : Rat) else (z : Rat) := by
  by_cases h : z < 0
  · rw [if_pos h, ← Rat.intCast_natCast, show ((z.natAbs : Nat) : Int) = -z from by omega, Rat.intCast_neg]
  · rw [if_neg h, ← Rat.intCast_natCast, show ((z.natAbs : Nat) : Int) = z from by omega]
theorem sgq_sgq (s : Bool) (x : Rat) : sgq s (sgq s x) = x := by cases s <;> simp [sgq, Rat.neg_neg]
/-- z is not beyond c, either way -/
def Wi (z c : Rat) : Prop := -c ≤ z ∧ z ≤ c
theorem Wi.sgq {x c : Rat} {s : Bool} (h0 : 0 ≤ x) (h : x ≤ c) : Wi (sgq s x) c := by
  unfold Wi Go.Proofs.YtcbkijeonilcjaaGreat.sgq; cases s <;> simp <;> constructor <;> grind
/-- a sum -/
theorem fadd_num {x y : Nat} {s t : Bool} {a b : Rat} (hx : Num x s a) (hy : Num y t b) (k : Int) (hk0 : -1074 ≤ k) (hk : k ≤ 1023) (h : Wi (sgq s a + sgq t b) (p2 k)) :
    ∃ r u N c, floatBits .add .f64 x y = some r ∧ Num r u c ∧ c ≤ p2 k ∧ Off N c ∧ sgq u N = sgq s a + sgq t b ∧ 0 ≤ N ∧ (s = false → t = false → u = false) := by
  obtain ⟨_, m, i, h1, h2, h3⟩ := hx
  obtain ⟨_, n, j, g1, g2, g3⟩ := hy
  have hi : i = min i j + ((i - min i j).toNat : Nat) := by omega
  have hj : j = min i j + ((j - min i j).toNat : Nat) := by omega
  have e1 := signed_rat s m (i - min i j).toNat (min i j)
  have e2 := signed_rat t n (j - min i j).toNat (min i j)
  rw [← hi, h3] at e1
  rw [← hj, g3] at e2
  obtain ⟨T, hT⟩ : ∃ T, signed s m (i - min i j).toNat + signed t n (j - min i j).toNat = T := ⟨_, rfl⟩
  have e3 : (T : Rat) * p2 (min i j) = sgq s a + sgq t b := by rw [← hT, Rat.intCast_add, Rat.add_mul, e1, e2]
  have hb := p2_pos (min i j)
  have hu : ∃ u, u = (if T = 0 then s && t else decide (T < 0)) := ⟨_, rfl⟩
  obtain ⟨u, hu⟩ := hu
  have hN : sgq u (((T.natAbs : Nat) : Rat) * p2 (min i j)) = sgq s a + sgq t b := by
    rw [← e3, natAbs_rat, hu]
    by_cases h0 : T = 0
    · rw [h0]; simp [sgq]
    · rw [if_neg h0]
      by_cases hn : T < 0
      · rw [decide_eq_true hn, if_pos hn]; simp only [sgq, if_true]; grind
      · rw [decide_eq_false hn, if_neg hn]; simp [sgq]
  have hN0 : 0 ≤ ((T.natAbs : Nat) : Rat) * p2 (min i j) := Rat.mul_nonneg Rat.natCast_nonneg (Rat.le_of_lt hb)
  have hle : ((T.natAbs : Nat) : Rat) * p2 (min i j) ≤ p2 k := by
    rw [← hN] at h
    unfold Wi sgq at h
    cases u <;> simp at h <;> grind
  obtain ⟨c, c1, c2, c3⟩ := near_full u T.natAbs (min i j) k hk0 hk hle
  refine ⟨double.nearest u T.natAbs (min i j), u, _, c, ?_, c1, c2, c3, hN, hN0, ?_⟩
  · show Format.add double x y = _
    unfold Format.add
    rw [h1, g1]
    simp only [Datum.sum, hT, Option.map_some, Format.write]
    rw [hu]
  · intro hs ht
    subst hs ht
    have : 0 ≤ T := by
      rw [← hT]; unfold signed
      exact Int.add_nonneg (Int.natCast_nonneg _) (Int.natCast_nonneg _)
    rw [hu]
    by_cases h0 : T = 0
    · simp [h0]
    · rw [if_neg h0, decide_eq_false_iff_not]; omega

theorem sgq_not (s : Bool) (x : Rat) : sgq (!s) x = -sgq s x := by cases s <;> simp [sgq, Rat.neg_neg]
/-- the opposite of a word -/
theorem read_opp {y : Nat} {t : Bool} {b : Rat} (hy : Num y t b) : ∃ n j, (double.read y).opposite = .number (!t) n j ∧ -1074 ≤ j ∧ (n : Rat) * p2 j = b := by
  obtain ⟨_, n, j, g1, g2, g3⟩ := hy
  exact ⟨n, j, by rw [g1]; rfl, g2, g3⟩
/-- a difference -/
theorem fsub_num {x y : Nat} {s t : Bool} {a b : Rat} (hx : Num x s a) (hy : Num y t b) (k : Int) (hk0 : -1074 ≤ k) (hk : k ≤ 1023) (h : Wi (sgq s a - sgq t b) (p2 k)) :
    ∃ r u N c, floatBits .sub .f64 x y = some r ∧ Num r u c ∧ c ≤ p2 k ∧ Off N c ∧ sgq u N = sgq s a - sgq t b ∧ 0 ≤ N := by
  obtain ⟨_, m, i, h1, h2, h3⟩ := hx
  obtain ⟨n, j, g1, g2, g3⟩ := read_opp hy
  have hi : i = min i j + ((i - min i j).toNat : Nat) := by omega
  have hj : j = min i j + ((j - min i j).toNat : Nat) := by omega
  have e1 := signed_rat s m (i - min i j).toNat (min i j)
  have e2 := signed_rat (!t) n (j - min i j).toNat (min i j)
  rw [← hi, h3] at e1
  rw [← hj, g3, sgq_not] at e2
  obtain ⟨T, hT⟩ : ∃ T, signed s m (i - min i j).toNat + signed (!t) n (j - min i j).toNat = T := ⟨_, rfl⟩
  have e3 : (T : Rat) * p2 (min i j) = sgq s a - sgq t b := by rw [← hT, Rat.intCast_add, Rat.add_mul, e1, e2, Rat.sub_eq_add_neg]
  have hb := p2_pos (min i j)
  obtain ⟨u, hu⟩ : ∃ u, u = (if T = 0 then s && !t else decide (T < 0)) := ⟨_, rfl⟩
  have hN : sgq u (((T.natAbs : Nat) : Rat) * p2 (min i j)) = sgq s a - sgq t b := by
    rw [← e3, natAbs_rat, hu]
    by_cases h0 : T = 0
    · rw [h0]; simp [sgq]
    · rw [if_neg h0]
      by_cases hn : T < 0
      · rw [decide_eq_true hn, if_pos hn]; simp only [sgq, if_true]; grind
      · rw [decide_eq_false hn, if_neg hn]; simp [sgq]
  have hN0 : 0 ≤ ((T.natAbs : Nat) : Rat) * p2 (min i j) := Rat.mul_nonneg Rat.natCast_nonneg (Rat.le_of_lt hb)
  have hle : ((T.natAbs : Nat) : Rat) * p2 (min i j) ≤ p2 k := by
    rw [← hN] at h
    unfold Wi sgq at h
    cases u <;> simp at h <;> grind
  obtain ⟨c, c1, c2, c3⟩ := near_full u T.natAbs (min i j) k hk0 hk hle
  refine ⟨double.nearest u T.natAbs (min i j), u, _, c, ?_, c1, c2, c3, hN, hN0⟩
  show Format.sub double x y = _
  unfold Format.sub
  rw [h1, g1]
  simp only [Datum.sum, hT, Option.map_some, Format.write]
  rw [hu]

/-- a product -/
theorem fmul_num {x y : Nat} {s t : Bool} {a b : Rat} (hx : Num x s a) (hy : Num y t b) (k : Int) (hk0 : -1074 ≤ k) (hk : k ≤ 1023) (h : a * b ≤ p2 k) :
    ∃ r c, floatBits .mul .f64 x y = some r ∧ Num r (s ^^ t) c ∧ c ≤ p2 k ∧ Off (a * b) c := by
  obtain ⟨_, m, i, h1, h2, h3⟩ := hx
  obtain ⟨_, n, j, g1, g2, g3⟩ := hy
  have e : ((m * n : Nat) : Rat) * p2 (i + j) = a * b := by rw [p2_add, ← h3, ← g3, Rat.natCast_mul]; grind
  obtain ⟨c, c1, c2, c3⟩ := near_full (s ^^ t) (m * n) (i + j) k hk0 hk (by rw [e]; exact h)
  rw [e] at c3
  refine ⟨_, c, ?_, c1, c2, c3⟩
  show Format.mul double x y = _
  unfold Format.mul
  rw [h1, g1]
  simp only [Datum.product, Option.map_some, Format.write]
end Go.Proofs.YtcbkijeonilcjaaGreat

/- The float nearest to a fraction: which one it is (plain). -/
namespace Go.Proofs.YtcbkijeonilcjaaGreat
open Ieee

/-- the greatest e with 2^e at most x over y -/
def fexp (x y : Nat) : Int := if x * 2 ^ ((blen y : Int) - blen x).toNat < y * 2 ^ ((blen x : Int) - blen y).toNat then (blen x : Int) - blen y - 1 else (blen x : Int) - blen y
/-- the place of the last bit that is kept -/
def fpl (x y : Nat) : Int := max (fexp x y - 52) (-1074)
/-- a number over another one, nearest, of two the even one -/
def halfE (N D : Nat) : Nat := N / D + (if D < 2 * (N % D) ∨ (2 * (N % D) = D ∧ N / D % 2 = 1) then 1 else 0)
def fman (x y : Nat) : Nat := halfE (x * 2 ^ (-fpl x y).toNat) (y * 2 ^ (fpl x y).toNat)
/-- the float nearest to a fraction, with its sign; none: it is too great -/
def flo (g : Bool) (x y : Nat) : Option Nat :=
  if x = 0 then some 0 else if 1023 < fexp x y then none else if fexp x y < -1075 then some 0
  else if double.nearest false (fman x y) (fpl x y) = 9218868437227405312 then none
  else if g = true ∧ double.nearest false (fman x y) (fpl x y) ≠ 0 then some (9223372036854775808 + double.nearest false (fman x y) (fpl x y)) else some (double.nearest false (fman x y) (fpl x y))

theorem halfE_spec (N : Nat) {D : Nat} (hD : 0 < D) : 2 * (halfE N D * D) ≤ 2 * N + D ∧ 2 * N ≤ 2 * (halfE N D * D) + D := by
  unfold halfE
  have hdm := Nat.div_add_mod N D
  have hm := Nat.mod_lt N hD
  generalize N / D = q at *
  generalize N % D = r at *
  by_cases h : D < 2 * r ∨ (2 * r = D ∧ q % 2 = 1)
  · rw [if_pos h]
    have h2 : D ≤ 2 * r := by omega
    have h3 : (q + 1) * D = D * q + D := by rw [Nat.add_mul, Nat.one_mul, Nat.mul_comm]
    rw [h3]; omega
  · rw [if_neg h]
    have h2 : 2 * r ≤ D := by omega
    have h3 : (q + 0) * D = D * q := by rw [Nat.add_zero, Nat.mul_comm]
    rw [h3]; omega

theorem rat_pow2 (n : Nat) : ((2 ^ n : Nat) : Rat) = p2 n := (p2_nat n).symm
theorem fx1 {a y X Y c x p : Rat} (h : p * y = Y * c) (e : p = 2 * a) (hx : x = X * c) (m2 : Y * c ≤ 2 * X * c) : a * y ≤ x := by
  have h1 : 2 * (a * y) = Y * c := by rw [← h, e]; grind
  have h2 : 2 * X * c = 2 * x := by rw [hx]; grind
  rw [h2] at m2
  generalize a * y = z at *
  generalize Y * c = u at *
  grind
theorem fx2 {y X Y c x p : Rat} (h : p * y = Y * c) (hx : x = X * c) (m1 : X * c < Y * c) : x < p * y := by rw [h, hx]; exact m1
theorem fx3 {y X Y c x p : Rat} (h : p * y = Y * c) (hx : x = X * c) (m1 : Y * c ≤ X * c) : p * y ≤ x := by rw [h, hx]; exact m1
theorem fx4 {y X Y c x p : Rat} (h : p * y = Y * c) (hx : x = X * c) (m2 : X * c < 2 * Y * c) : x < 2 * p * y := by
  have h1 : 2 * p * y = 2 * Y * c := by rw [Rat.mul_assoc, h]; grind
  rw [h1, hx]; exact m2
/-- between two powers of two -/
theorem fexp_spec {x y : Nat} (hx : 0 < x) (hy : 0 < y) : p2 (fexp x y) * y ≤ (x : Rat) ∧ (x : Rat) < p2 (fexp x y + 1) * y := by
  have bx := blen_lt x
  have by' := blen_lt y
  obtain ⟨bx2, bx3⟩ := blen_le (x := x) (by omega)
  obtain ⟨by2, by3⟩ := blen_le (x := y) (by omega)
  obtain ⟨e, he⟩ : ∃ e : Int, e = (blen x : Int) - blen y := ⟨_, rfl⟩
  have he2 : (blen y : Int) - blen x = -e := by omega
  have ex : x * 2 ^ (-e).toNat < 2 ^ (blen x + (-e).toNat) := by rw [Nat.pow_add]; exact Nat.mul_lt_mul_of_pos_right bx (Nat.two_pow_pos _)
  have ex2 : 2 ^ (blen x - 1 + (-e).toNat) ≤ x * 2 ^ (-e).toNat := by rw [Nat.pow_add]; exact Nat.mul_le_mul_right _ bx2
  have ey : y * 2 ^ e.toNat < 2 ^ (blen y + e.toNat) := by rw [Nat.pow_add]; exact Nat.mul_lt_mul_of_pos_right by' (Nat.two_pow_pos _)
  have ey2 : 2 ^ (blen y - 1 + e.toNat) ≤ y * 2 ^ e.toNat := by rw [Nat.pow_add]; exact Nat.mul_le_mul_right _ by2
  have e1 : blen x + (-e).toNat = blen y + e.toNat := by omega
  obtain ⟨m, hm⟩ : ∃ m, blen x + (-e).toNat = m + 1 := ⟨blen x - 1 + (-e).toNat, by omega⟩
  rw [hm] at ex
  rw [← e1, hm] at ey
  rw [show blen x - 1 + (-e).toNat = m from by omega] at ex2
  rw [show blen y - 1 + e.toNat = m from by omega] at ey2
  rw [Nat.pow_succ] at ex ey
  have hc := p2_pos (-((-e).toNat : Int))
  have q1 : p2 e = ((2 ^ e.toNat : Nat) : Rat) * p2 (-((-e).toNat : Int)) := by rw [rat_pow2, ← p2_add]; congr 1; omega
  have q2 : ((2 ^ (-e).toNat : Nat) : Rat) * p2 (-((-e).toNat : Int)) = 1 := by rw [rat_pow2, ← p2_add, show ((-e).toNat : Int) + -((-e).toNat : Int) = 0 from by omega, p2_zero]
  have e6 : p2 e = 2 * p2 (e - 1) := by rw [← p2_succ]; congr 1; omega
  unfold fexp
  rw [he2, ← he]
  generalize p2 (-((-e).toNat : Int)) = c at *
  generalize hX : x * 2 ^ (-e).toNat = X at *
  generalize hY : y * 2 ^ e.toNat = Y at *
  have hX2 : (X : Rat) = (x : Rat) * ((2 ^ (-e).toNat : Nat) : Rat) := by rw [← hX, Rat.natCast_mul]
  have hY2 : (Y : Rat) = (y : Rat) * ((2 ^ e.toNat : Nat) : Rat) := by rw [← hY, Rat.natCast_mul]
  have hx3 : (x : Rat) = (X : Rat) * c := by rw [hX2]; grind
  have hy3 : p2 e * (y : Rat) = (Y : Rat) * c := by rw [q1, hY2]; grind
  by_cases hlt : X < Y
  · rw [if_pos hlt, show e - 1 + 1 = e from by omega]
    have h1 : (X : Rat) < (Y : Rat) := Rat.natCast_lt_natCast.2 hlt
    have h2 : Y ≤ 2 * X := by omega
    have h3 := Rat.natCast_le_natCast.2 h2
    rw [Rat.natCast_mul] at h3
    have m1 := Rat.mul_lt_mul_of_pos_right h1 hc
    have m2 := Rat.mul_le_mul_of_nonneg_right h3 (Rat.le_of_lt hc)
    have h9 : ((2 : Nat) : Rat) = 2 := rfl
    rw [h9] at m2
    exact ⟨fx1 hy3 e6 hx3 m2, fx2 hy3 hx3 m1⟩
  · rw [if_neg hlt, p2_succ]
    have h1 : (Y : Rat) ≤ (X : Rat) := Rat.natCast_le_natCast.2 (by omega)
    have h2 : X < 2 * Y := by omega
    have h3 := Rat.natCast_lt_natCast.2 h2
    rw [Rat.natCast_mul] at h3
    have m1 := Rat.mul_le_mul_of_nonneg_right h1 (Rat.le_of_lt hc)
    have m2 := Rat.mul_lt_mul_of_pos_right h3 hc
    have h9 : ((2 : Nat) : Rat) = 2 := rfl
    rw [h9] at m2
    exact ⟨fx3 hy3 hx3 m1, fx4 hy3 hx3 m2⟩
/-- what is kept, and how far it is off: twice as many halves -/
theorem fman_spec {x y : Nat} (hy : 0 < y) :
    2 * ((fman x y : Rat) * p2 (fpl x y) * y) ≤ 2 * x + p2 (fpl x y) * y ∧ 2 * (x : Rat) ≤ 2 * ((fman x y : Rat) * p2 (fpl x y) * y) + p2 (fpl x y) * y := by
  unfold fman
  obtain ⟨k, hk⟩ : ∃ k, k = fpl x y := ⟨_, rfl⟩
  rw [← hk]
  have hD : 0 < y * 2 ^ k.toNat := Nat.mul_pos hy (Nat.two_pow_pos _)
  obtain ⟨s1, s2⟩ := halfE_spec (x * 2 ^ (-k).toNat) hD
  generalize halfE (x * 2 ^ (-k).toNat) (y * 2 ^ k.toNat) = m at *
  have hc := p2_pos (-((-k).toNat : Int))
  have q1 : p2 k = ((2 ^ k.toNat : Nat) : Rat) * p2 (-((-k).toNat : Int)) := by rw [rat_pow2, ← p2_add]; congr 1; omega
  have q2 : ((2 ^ (-k).toNat : Nat) : Rat) * p2 (-((-k).toNat : Int)) = 1 := by rw [rat_pow2, ← p2_add, show ((-k).toNat : Int) + -((-k).toNat : Int) = 0 from by omega, p2_zero]
  generalize p2 (-((-k).toNat : Int)) = c at *
  have r1 := Rat.mul_le_mul_of_nonneg_right (Rat.natCast_le_natCast.2 s1) (Rat.le_of_lt hc)
  have r2 := Rat.mul_le_mul_of_nonneg_right (Rat.natCast_le_natCast.2 s2) (Rat.le_of_lt hc)
  simp only [Rat.natCast_add, Rat.natCast_mul] at r1 r2
  have h9 : ((2 : Nat) : Rat) = 2 := rfl
  rw [h9] at r1 r2
  rw [q1]
  generalize ((2 ^ k.toNat : Nat) : Rat) = P at *
  generalize ((2 ^ (-k).toNat : Nat) : Rat) = Q at *
  clear s1 s2 hk hD hy
  have e1 : 2 * ((m : Rat) * (P * c) * (y : Rat)) = 2 * ((m : Rat) * ((y : Rat) * P)) * c := by grind
  have e2 : P * c * (y : Rat) = (y : Rat) * P * c := by grind
  have e3 : 2 * (x : Rat) = 2 * ((x : Rat) * Q) * c := by grind
  rw [e1, e2, e3]
  constructor
  · rw [Rat.add_mul] at r1; exact r1
  · rw [Rat.add_mul] at r2; exact r2
theorem fman_le {x y : Nat} (hx : 0 < x) (hy : 0 < y) : fman x y ≤ 9007199254740992 := by
  obtain ⟨h1, _⟩ := fman_spec (x := x) hy
  obtain ⟨_, h2⟩ := fexp_spec hx hy
  have h3 : p2 (fexp x y + 1) ≤ p2 (53 + fpl x y) := p2_mono (by unfold fpl; omega)
  rw [p2_add 53] at h3
  have h4 : p2 53 = 9007199254740992 := by decide +kernel
  rw [h4] at h3
  have hc : 0 < p2 (fpl x y) * (y : Rat) := Rat.mul_pos (p2_pos _) (Rat.natCast_pos.2 hy)
  have h5 := Rat.mul_le_mul_of_nonneg_right h3 (Rat.natCast_nonneg (a := y))
  refine nat_le_of_rat hc ?_
  have h9 : ((9007199254740992 : Nat) : Rat) = 9007199254740992 := rfl
  rw [h9]
  generalize p2 (fpl x y) = c at *
  grind
theorem fpl_bd {x y : Nat} (h : fexp x y ≤ 1023) : -1074 ≤ fpl x y ∧ fpl x y ≤ 971 := by unfold fpl; omega
end Go.Proofs.YtcbkijeonilcjaaGreat
