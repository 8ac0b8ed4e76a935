/- The numbers behind division by a number of two words or more. -/
import Derived.Test.YtcbkijeonilcjaaGreatHC2
import Derived.Test.YtcbkijeonilcjaaGreatProg
namespace Go.Proofs.YtcbkijeonilcjaaGreat

/-- What is known of the stretch u and the divisor V (of n words, the first great). -/
structure DivIn (u : List Nat) (V n : Nat) : Prop where
  lim : lim u
  len : u.length = n + 1
  two : 2 ≤ n
  wlV : wl V = n
  top : 2147483648 ≤ wd (wds V) (n - 1)
  lt : val u < 4294967296 * V

theorem wl_top {V n : Nat} (h : wl V = n + 2) : V = (wd (wds V) (n + 1) * 4294967296 + wd (wds V) n) * 4294967296 ^ n + V % 4294967296 ^ n := by
  have h1 : V % 4294967296 ^ (n + 2) = V := mod_top (by omega)
  conv => lhs; rw [← h1, mod_wd, mod_wd]
  simp only [Nat.pow_succ]
  generalize V % 4294967296 ^ n = t
  generalize 4294967296 ^ n = P
  generalize wd (wds V) (n + 1) = a
  generalize wd (wds V) n = b
  clear h h1
  grind
theorem val_top3 {u : List Nat} {n : Nat} (h : u.length = n + 3) : val u = ((wd u (n + 2) * 4294967296 + wd u (n + 1)) * 4294967296 + wd u n) * 4294967296 ^ n + val (u.take n) := by
  have h1 : u.take (n + 3) = u := List.take_of_length_le (by omega)
  conv => lhs; rw [← h1, val_take_succ, val_take_succ, val_take_succ]
  simp only [Nat.pow_succ]
  generalize 4294967296 ^ n = P
  generalize val (List.take n u) = t
  generalize wd u (n + 2) = a
  generalize wd u (n + 1) = b
  generalize wd u n = c
  clear h h1
  grind

def topOf (u : List Nat) (n : Nat) : Nat := wd u n * 4294967296 + wd u (n - 1)
def guessAt (u : List Nat) (V n q r : Nat) : Prop :=
  q * wd (wds V) (n - 1) + r = topOf u n ∧ val u / V ≤ q ∧ q ≤ 4294967297 ∧ r < 4294967296

section
variable {u : List Nat} {V n : Nat}
theorem DivIn.split (h : DivIn u V n) : ∃ m, n = m + 2 ∧ ∃ lo vlo P, P = 4294967296 ^ m ∧ 0 < P ∧ lo < P ∧ vlo < P ∧
    val u = (topOf u n * 4294967296 + wd u (n - 2)) * P + lo ∧ V = (wd (wds V) (n - 1) * 4294967296 + wd (wds V) (n - 2)) * P + vlo := by
  obtain ⟨h1, h2, h3, h4, h5, h6⟩ := h
  obtain ⟨m, rfl⟩ : ∃ m, n = m + 2 := ⟨n - 2, by omega⟩
  exact ⟨m, rfl, _, _, _, rfl, pow_pos_B m, val_take_lt h1 m, Nat.mod_lt _ (pow_pos_B m), val_top3 h2, wl_top h4⟩
theorem lt_of_mul_lt {a b P : Nat} (h : a * P < (b + 1) * P) : a ≤ b := Nat.le_of_lt_succ (Nat.lt_of_mul_lt_mul_right h)
theorem DivIn.pos (h : DivIn u V n) : 0 < V := by
  rcases Nat.eq_zero_or_pos V with h0 | h0
  · have := h.wlV; rw [h0, wl_zero] at this; have := h.two; omega
  · exact h0
theorem DivIn.first (h : DivIn u V n) : wd u n ≤ wd (wds V) (n - 1) := by
  obtain ⟨m, rfl, lo, vlo, P, hP, hP0, hlo, hvlo, hu, hV⟩ := h.split
  have hlt := h.lt
  have h2 := wd_lt (lim_wds V) (m + 2 - 2)
  simp only [topOf] at hu
  generalize wd u (m + 2) = u0 at *
  generalize wd u (m + 2 - 2) = u2 at *
  generalize wd (wds V) (m + 2 - 1) = v1 at *
  generalize wd (wds V) (m + 2 - 2) = v2 at *
  generalize wd u (m + 2 - 1) = u1 at *
  clear hP
  rw [hu, hV] at hlt
  refine Nat.le_of_not_lt fun hc => ?_
  have a1 : (v1 + 1) * (4294967296 * 4294967296 * P) ≤ u0 * (4294967296 * 4294967296 * P) := Nat.mul_le_mul_right _ hc
  have a2 : (v2 + 1) * P ≤ 4294967296 * P := Nat.mul_le_mul_right _ h2
  have a3 : ((u0 * 4294967296 + u1) * 4294967296 + u2) * P = u0 * (4294967296 * 4294967296 * P) + (u1 * 4294967296 + u2) * P := by grind
  have a4 : 4294967296 * ((v1 * 4294967296 + v2) * P + vlo) = v1 * (4294967296 * 4294967296 * P) + 4294967296 * (v2 * P) + 4294967296 * vlo := by grind
  have a5 : (v1 + 1) * (4294967296 * 4294967296 * P) = v1 * (4294967296 * 4294967296 * P) + 4294967296 * (4294967296 * P) := by grind
  have a6 : (v2 + 1) * P = v2 * P + P := by grind
  omega
theorem DivIn.top_lt (h : DivIn u V n) : topOf u n ≤ wd (wds V) (n - 1) * 4294967296 + 4294967295 ∧ topOf u n < 18446744073709551616 := by
  have h1 := h.first
  have h2 := wd_lt h.lim (n - 1)
  have h3 := wd_lt h.lim n
  unfold topOf
  omega
theorem DivIn.quo_lt (h : DivIn u V n) : val u / V < 4294967296 := by
  rw [Nat.div_lt_iff_lt_mul h.pos]; exact h.lt
theorem guess_start (h : DivIn u V n) : guessAt u V n (topOf u n / wd (wds V) (n - 1)) (topOf u n % wd (wds V) (n - 1)) := by
  have hv := h.top
  have hv2 := wd_lt (lim_wds V) (n - 1)
  have ht := h.top_lt.1
  refine ⟨by rw [Nat.mul_comm]; exact Nat.div_add_mod _ _, ?_, ?_, ?_⟩
  · rw [Nat.le_div_iff_mul_le (by omega)]
    obtain ⟨m, rfl, lo, vlo, P, hP, hP0, hlo, hvlo, hu, hV⟩ := h.split
    have hq : val u / V * V ≤ val u := Nat.div_mul_le_self _ _
    generalize val u / V = q at *
    rw [hu] at hq
    have hu2 := wd_lt h.lim (m + 2 - 2)
    generalize wd u (m + 2 - 2) = u2 at *
    generalize topOf u (m + 2) = t at *
    generalize wd (wds V) (m + 2 - 1) = v1 at *
    generalize wd (wds V) (m + 2 - 2) = v2 at *
    clear hP hu
    refine lt_of_mul_lt (P := 4294967296 * P) ?_
    have a1 : q * V = q * v1 * (4294967296 * P) + q * (v2 * P + vlo) := by rw [hV]; grind
    have a2 : (t * 4294967296 + u2) * P = t * (4294967296 * P) + u2 * P := by grind
    have a3 : (t + 1) * (4294967296 * P) = t * (4294967296 * P) + 4294967296 * P := by grind
    have a4 : (u2 + 1) * P ≤ 4294967296 * P := Nat.mul_le_mul_right _ hu2
    have a5 : (u2 + 1) * P = u2 * P + P := by grind
    omega
  · refine Nat.le_of_lt_succ ?_
    rw [Nat.div_lt_iff_lt_mul (by omega)]
    omega
  · have := Nat.mod_lt (topOf u n) (show 0 < wd (wds V) (n - 1) by omega)
    omega
theorem guess_lower (h : DivIn u V n) {q r : Nat} (hg : guessAt u V n q r) (hc : 4294967296 ≤ q ∨ r * 4294967296 + wd u (n - 2) < q * wd (wds V) (n - 2)) : 0 < q ∧ val u / V ≤ q - 1 := by
  obtain ⟨h1, h2, h3, h4⟩ := hg
  have hlt := h.quo_lt
  rcases hc with hc | hc
  · omega
  · have hq0 : 0 < q := by
      rcases Nat.eq_zero_or_pos q with h0 | h0
      · rw [h0, Nat.zero_mul] at hc; omega
      · exact h0
    refine ⟨hq0, ?_⟩
    refine Nat.le_sub_one_of_lt (Nat.lt_of_le_of_ne h2 fun e => ?_)
    have hq : val u / V * V ≤ val u := Nat.div_mul_le_self _ _
    rw [e] at hq
    obtain ⟨m, rfl, lo, vlo, P, hP, hP0, hlo, hvlo, hu, hV⟩ := h.split
    rw [hu] at hq
    generalize wd u (m + 2 - 2) = u2 at *
    generalize topOf u (m + 2) = t at *
    generalize wd (wds V) (m + 2 - 1) = v1 at *
    generalize wd (wds V) (m + 2 - 2) = v2 at *
    clear hP hu
    have a1 : q * V = (q * v1 * 4294967296 + q * v2) * P + q * vlo := by rw [hV]; grind
    have a2 : q * v1 * 4294967296 + q * v2 ≤ t * 4294967296 + u2 := by
      refine lt_of_mul_lt (P := P) ?_
      have a3 : (t * 4294967296 + u2 + 1) * P = (t * 4294967296 + u2) * P + P := by grind
      omega
    omega
theorem guess_dec (h : DivIn u V n) {q r : Nat} (hg : guessAt u V n q r) (hc : 4294967296 ≤ q ∨ r * 4294967296 + wd u (n - 2) < q * wd (wds V) (n - 2)) (hr : r + wd (wds V) (n - 1) < 4294967296) :
    guessAt u V n (q - 1) (r + wd (wds V) (n - 1)) := by
  obtain ⟨hq, hl⟩ := guess_lower h hg hc
  obtain ⟨h1, h2, h3, h4⟩ := hg
  refine ⟨?_, hl, by omega, hr⟩
  obtain ⟨p, rfl⟩ : ∃ p, q = p + 1 := ⟨q - 1, by omega⟩
  rw [← h1, Nat.add_sub_cancel, Nat.add_mul]; omega
/-- the end: at most one too many -/
theorem guess_end (h : DivIn u V n) {q r : Nat} (h1 : q * wd (wds V) (n - 1) + r = topOf u n) (h2 : val u / V ≤ q) (hc : (q < 4294967296 ∧ q * wd (wds V) (n - 2) ≤ r * 4294967296 + wd u (n - 2)) ∨ 4294967296 ≤ r) :
    q < 4294967296 ∧ val u / V ≤ q ∧ q ≤ val u / V + 1 := by
  have hv := h.top
  have hv2 := wd_lt (lim_wds V) (n - 1)
  have ht := h.top_lt.1
  have hv3 := wd_lt (lim_wds V) (n - 2)
  have hqB : q < 4294967296 := by
    rcases hc with hc | hc
    · exact hc.1
    · refine Nat.lt_of_not_le fun hq => ?_
      have : 4294967296 * wd (wds V) (n - 1) ≤ q * wd (wds V) (n - 1) := Nat.mul_le_mul_right _ hq
      omega
  refine ⟨hqB, h2, ?_⟩
  have hq2 : q * wd (wds V) (n - 2) ≤ r * 4294967296 + wd u (n - 2) := by
    rcases hc with hc | hc
    · exact hc.2
    · have a : q * wd (wds V) (n - 2) ≤ 4294967295 * 4294967295 := Nat.mul_le_mul (by omega) (by omega)
      omega
  have key : q * V < val u + V := by
    obtain ⟨m, rfl, lo, vlo, P, hP, hP0, hlo, hvlo, hu, hV⟩ := h.split
    rw [hu]
    generalize wd u (m + 2 - 2) = u2 at *
    generalize topOf u (m + 2) = t at *
    generalize wd (wds V) (m + 2 - 1) = v1 at *
    generalize wd (wds V) (m + 2 - 2) = v2 at *
    clear hP hu
    have a1 : q * V = (q * v1 * 4294967296 + q * v2) * P + q * vlo := by rw [hV]; grind
    have a2 : (q * v1 * 4294967296 + q * v2) * P ≤ (t * 4294967296 + u2) * P := Nat.mul_le_mul_right _ (by omega)
    have a3 : q * vlo < 4294967296 * P := Nat.mul_lt_mul'' hqB hvlo
    have a4 : 1 * 4294967296 * P ≤ (v1 * 4294967296 + v2) * P := Nat.mul_le_mul_right _ (by omega)
    omega
  have : (q - 1) * V ≤ val u := by
    rcases Nat.eq_zero_or_pos q with h0 | h0
    · rw [h0]; omega
    · obtain ⟨p, rfl⟩ : ∃ p, q = p + 1 := ⟨q - 1, by omega⟩
      rw [Nat.add_mul] at key
      rw [Nat.add_sub_cancel]; omega
  have := (Nat.le_div_iff_mul_le h.pos).2 this
  omega
end

/-! ### a multiple taken off, and put back once -/
def offAt (u : List Nat) (V q k bor car : Nat) (l : List Nat) : Prop :=
  bor ≤ 1 ∧ car < 4294967296 ∧ car * 4294967296 ^ k ≤ q * (V % 4294967296 ^ k) ∧ val (u.take k) + (bor + car) * 4294967296 ^ k = val (l.take k) + q * (V % 4294967296 ^ k) ∧ ∀ j, k ≤ j → wd l j = wd u j
theorem offAt_zero (u : List Nat) (V q : Nat) : offAt u V q 0 0 0 u := ⟨by omega, by omega, by simp, by simp [val, Nat.mod_one], fun _ _ => rfl⟩
theorem off_word {q car w : Nat} (hq : q < 4294967296) (hc : car < 4294967296) (hw : w < 4294967296) : car + q * w < 18446744073709551616 ∧ (car + q * w) / 4294967296 < 4294967296 := by
  have : q * w ≤ 4294967295 * 4294967295 := Nat.mul_le_mul (by omega) (by omega)
  omega
theorem offAt_step {u : List Nat} {V q k bor car o bor' : Nat} {l : List Nat} (h : offAt u V q k bor car l) (hq : q < 4294967296) (hk : k < l.length) (hb : bor' ≤ 1)
    (ho : o + (car + q * wd (wds V) k) % 4294967296 + bor = wd u k + 4294967296 * bor') :
    offAt u V q (k + 1) bor' ((car + q * wd (wds V) k) / 4294967296) (l.set k o) := by
  obtain ⟨h1, h2, h5, h3, h4⟩ := h
  refine ⟨hb, (off_word hq h2 (wd_lt (lim_wds V) k)).2, ?_, ?_, fun j hj => ?_⟩
  · rw [mod_wd]
    generalize wd (wds V) k = v at *
    have e : (car + q * v) / 4294967296 * 4294967296 ≤ car + q * v := Nat.div_mul_le_self _ _
    generalize (car + q * v) / 4294967296 = c2 at *
    generalize V % 4294967296 ^ k = V' at *
    rw [Nat.pow_succ]
    generalize 4294967296 ^ k = P at *
    have e2 : c2 * 4294967296 * P ≤ (car + q * v) * P := Nat.mul_le_mul_right _ e
    clear h4 h3 ho
    grind
  · rw [val_take_set _ _ _ hk, val_take_succ, mod_wd]
    generalize wd (wds V) k = v at *
    have e := Nat.div_add_mod (car + q * v) 4294967296
    generalize (car + q * v) / 4294967296 = c2 at *
    generalize (car + q * v) % 4294967296 = m at *
    generalize wd u k = w at *
    generalize V % 4294967296 ^ k = V' at *
    rw [Nat.pow_succ]
    generalize 4294967296 ^ k = P at *
    generalize val (List.take k u) = U at *
    generalize val (List.take k l) = L at *
    clear h4 h5
    grind
  · rw [wd_set_ne _ (by omega)]; exact h4 j (by omega)
theorem offAt_end {u : List Nat} {V q n bor car : Nat} {l : List Nat} (h : offAt u V q (n + 1) bor car l) (hu : u.length = n + 1) (hl : l.length = n + 1) (hV : wl V = n) (hq : q < 4294967296) :
    val u + bor * 4294967296 ^ (n + 1) = val l + q * V := by
  obtain ⟨h1, h2, h5, h3, _⟩ := h
  rw [mod_top (by omega)] at h5
  rw [List.take_of_length_le (by omega), List.take_of_length_le (by omega), mod_top (by omega)] at h3
  have hV2 : V < 4294967296 ^ n := wl_le.1 (by omega)
  have a1 : q * V < 4294967296 ^ (n + 1) := by
    rw [Nat.pow_succ, Nat.mul_comm (4294967296 ^ n)]
    exact Nat.lt_of_le_of_lt (Nat.mul_le_mul_right _ (Nat.le_of_lt hq)) (Nat.mul_lt_mul_of_pos_left hV2 (by omega))
  have hc : car = 0 := by
    rcases Nat.eq_zero_or_pos car with h0 | h0
    · exact h0
    · have : 1 * 4294967296 ^ (n + 1) ≤ car * 4294967296 ^ (n + 1) := Nat.mul_le_mul_right _ h0
      omega
  rw [hc, Nat.add_zero] at h3
  exact h3

def backAt (u : List Nat) (V k c : Nat) (l : List Nat) : Prop :=
  c ≤ 1 ∧ val (l.take k) + c * 4294967296 ^ k = val (u.take k) + V % 4294967296 ^ k ∧ ∀ j, k ≤ j → wd l j = wd u j
theorem backAt_zero (u : List Nat) (V : Nat) : backAt u V 0 0 u := ⟨by omega, by simp [val, Nat.mod_one], fun _ _ => rfl⟩
theorem backAt_step {u : List Nat} {V k c : Nat} {l : List Nat} (h : backAt u V k c l) (hu : lim u) (hk : k < l.length) :
    backAt u V (k + 1) ((c + wd u k + wd (wds V) k) / 4294967296) (l.set k ((c + wd u k + wd (wds V) k) % 4294967296)) := by
  have h1 := wd_lt hu k
  have h2 := wd_lt (lim_wds V) k
  obtain ⟨hc, h, h4⟩ := h
  refine ⟨by omega, ?_, fun j hj => ?_⟩
  · rw [val_take_set _ _ _ hk, mod_wd, val_take_succ]
    generalize wd u k = dx at *
    generalize wd (wds V) k = dy at *
    have e := Nat.div_add_mod (c + dx + dy) 4294967296
    generalize (c + dx + dy) / 4294967296 = q at *
    generalize (c + dx + dy) % 4294967296 = r at *
    rw [Nat.pow_succ]
    generalize V % 4294967296 ^ k = V' at *
    generalize 4294967296 ^ k = P at *
    generalize val (List.take k u) = U at *
    generalize val (List.take k l) = L at *
    clear h4
    grind
  · rw [wd_set_ne _ (by omega)]; exact h4 j (by omega)

/-- One word of the quotient: what is left of the stretch. -/
theorem word_none {u : List Nat} {V n q : Nat} {l : List Nat} (h : DivIn u V n) (hg : val u / V ≤ q ∧ q ≤ val u / V + 1) (ho : val u + 0 * 4294967296 ^ (n + 1) = val l + q * V) :
    q = val u / V ∧ val l = val u % V := by
  have hp := h.pos
  have e := Nat.div_add_mod (val u) V
  have e2 := Nat.mod_lt (val u) hp
  rcases (by omega : q = val u / V ∨ q = val u / V + 1) with hq | hq
  · refine ⟨hq, ?_⟩
    rw [← hq, Nat.mul_comm] at e
    omega
  · rw [hq, Nat.add_mul, Nat.mul_comm (val u / V)] at ho
    omega
theorem word_back {u : List Nat} {V n q c : Nat} {l l2 : List Nat} (h : DivIn u V n) (hg : val u / V ≤ q ∧ q ≤ val u / V + 1) (hl : lim l) (hll : l.length = n + 1) (ho : val u + 1 * 4294967296 ^ (n + 1) = val l + q * V)
    (hb : backAt l V (n + 1) c l2) (hl2 : lim l2) (hll2 : l2.length = n + 1) : q = val u / V + 1 ∧ val l2 = val u % V := by
  have hp := h.pos
  have e := Nat.div_add_mod (val u) V
  have e2 := Nat.mod_lt (val u) hp
  have h1 := val_lt hl
  have h2 := val_lt hl2
  rw [hll] at h1
  rw [hll2] at h2
  obtain ⟨hc, hb, _⟩ := hb
  rw [List.take_of_length_le (by omega), List.take_of_length_le (by omega), mod_top (by have := h.wlV; omega)] at hb
  have hq : q = val u / V + 1 := by
    rcases (by omega : q = val u / V ∨ q = val u / V + 1) with hq | hq
    · rw [← hq, Nat.mul_comm] at e; omega
    · exact hq
  refine ⟨hq, ?_⟩
  rw [hq, Nat.add_mul, Nat.mul_comm (val u / V)] at ho
  have hVP : V < 4294967296 ^ (n + 1) := wl_le.1 (by have := h.wlV; omega)
  rcases (by omega : c = 0 ∨ c = 1) with rfl | rfl
  · omega
  · omega

/-! ### the whole division -/
/-- Words from k on of the quotient are known. -/
def divAt (x V k : Nat) (u q : List Nat) : Prop := x = V * 4294967296 ^ k * val (q.drop k) + val u ∧ val (u.drop k) < V
theorem divAt_in {x V n k : Nat} {u q : List Nat} (h : divAt x V (k + 1) u q) (hu : lim u) (hn : 2 ≤ n) (hV : wl V = n) (ht : 2147483648 ≤ wd (wds V) (n - 1)) (hk : k + n + 1 ≤ u.length) :
    DivIn ((u.drop k).take (n + 1)) V n ∧ val ((u.drop k).take (n + 1)) = val (u.drop k) ∧ val (u.drop (k + n + 1)) = 0 := by
  have hVn : V < 4294967296 ^ n := wl_le.1 (by omega)
  have h0 : val (u.drop (k + n + 1)) = 0 := by
    have h2 := h.2
    rw [val_split (u.drop (k + 1)) n (by simp; omega), List.drop_drop] at h2
    rw [show k + n + 1 = k + 1 + n from by omega]
    rcases Nat.eq_zero_or_pos (val (u.drop (k + 1 + n))) with h3 | h3
    · exact h3
    · have : 4294967296 ^ n * 1 ≤ 4294967296 ^ n * val (u.drop (k + 1 + n)) := Nat.mul_le_mul_left _ h3
      omega
  have h1 : val ((u.drop k).take (n + 1)) = val (u.drop k) := by
    have := val_split (u.drop k) (n + 1) (by simp; omega)
    rw [List.drop_drop, show k + (n + 1) = k + n + 1 from by omega, h0] at this
    omega
  refine ⟨⟨lim_take (lim_drop hu k) _, by simp; omega, hn, hV, ht, ?_⟩, h1, h0⟩
  rw [h1, val_drop_succ]
  have := wd_lt hu k
  have := h.2
  omega
theorem divAt_step {x V n k w : Nat} {u q p : List Nat} (h : divAt x V (k + 1) u q) (hk : k + n + 1 ≤ u.length) (hq : k < q.length) (hp : p.length = n + 1)
    (hw : w = val ((u.drop k).take (n + 1)) / V) (hr : val p = val ((u.drop k).take (n + 1)) % V) (hV : 0 < V) (h1 : val ((u.drop k).take (n + 1)) = val (u.drop k)) (h0 : val (u.drop (k + n + 1)) = 0) :
    divAt x V k (u.take k ++ p ++ u.drop (k + n + 1)) (q.set k w) := by
  have hlen : (u.take k).length = k := by simp; omega
  have e := Nat.div_add_mod (val (u.drop k)) V
  rw [h1] at hw hr
  rw [← hw, ← hr] at e
  have hs := val_split u k (by omega)
  refine ⟨?_, ?_⟩
  · rw [h.1, val_append, val_append, h0, hlen, val_drop_succ (q.set k w) k, wd_set_eq _ hq, List.drop_set_of_lt (by omega), hs, ← e, Nat.pow_succ]
    generalize 4294967296 ^ k = P
    generalize val (List.take k u) = A
    generalize val (List.drop (k + 1) q) = Q
    clear h hs e hw hr h1 h0
    grind
  · rw [List.append_assoc, List.drop_append_of_le_length (by omega), List.drop_eq_nil_of_le (by omega), List.nil_append, val_append, h0, hr]
    have := Nat.mod_lt (val (u.drop k)) hV
    omega
theorem divAt_end {x V : Nat} {u q : List Nat} (h : divAt x V 0 u q) : val q = x / V ∧ val u = x % V := by
  obtain ⟨h1, h2⟩ := h
  simp at h1 h2
  rw [h1]
  constructor
  · rw [Nat.mul_add_div (by omega), Nat.div_eq_of_lt h2]; omega
  · rw [Nat.mul_add_mod, Nat.mod_eq_of_lt h2]

/-! ### the divisor made great -/
/-- how many bits -/
def blen (x : Nat) : Nat := if x = 0 then 0 else Nat.log2 x + 1
theorem blen_lt (x : Nat) : x < 2 ^ blen x := by
  unfold blen
  split
  · omega
  · exact Nat.lt_log2_self
theorem blen_le {x : Nat} (h : x ≠ 0) : 2 ^ (blen x - 1) ≤ x ∧ 0 < blen x := by
  unfold blen
  rw [if_neg h]
  exact ⟨by simpa using Nat.log2_self_le h, by omega⟩
theorem blen_le_of_lt {x n : Nat} (h : x < 2 ^ n) : blen x ≤ n := by
  by_cases h0 : x = 0
  · simp [blen, h0]
  · obtain ⟨h1, h2⟩ := blen_le h0
    have : 2 ^ (blen x - 1) < 2 ^ n := Nat.lt_of_le_of_lt h1 h
    have := (Nat.pow_lt_pow_iff_right (by omega)).1 this
    omega
theorem blen_unique {x n : Nat} (h1 : 2 ^ n ≤ x) (h2 : x < 2 ^ (n + 1)) : blen x = n + 1 := by
  have h0 : x ≠ 0 := by
    have : 0 < 2 ^ n := Nat.pow_pos (by omega)
    omega
  obtain ⟨h3, h4⟩ := blen_le h0
  have a := blen_le_of_lt h2
  have b : 2 ^ n < 2 ^ blen x := Nat.lt_of_le_of_lt h1 (blen_lt x)
  have := (Nat.pow_lt_pow_iff_right (by omega)).1 b
  omega
theorem top_pos {x : Nat} (h : x ≠ 0) : 0 < wd (wds x) (wl x - 1) := by
  have := (nf_wds x).2 (by rw [wds_pos h]; simp)
  rw [wl_def] at this
  omega
theorem top_split {x : Nat} (h : x ≠ 0) : x = wd (wds x) (wl x - 1) * 4294967296 ^ (wl x - 1) + x % 4294967296 ^ (wl x - 1) := by
  have hw : wl x ≠ 0 := fun e => h (wl_eq_zero.1 e)
  have h1 : x % 4294967296 ^ (wl x - 1 + 1) = x := mod_top (by omega)
  rw [mod_wd] at h1
  rw [Nat.mul_comm]
  omega
theorem blen_top {x : Nat} (h : x ≠ 0) : blen x = 32 * (wl x - 1) + blen (wd (wds x) (wl x - 1)) := by
  have ht := top_pos h
  have hs := top_split h
  have hr := Nat.mod_lt x (pow_pos_B (wl x - 1))
  obtain ⟨h1, h2⟩ := blen_le (x := wd (wds x) (wl x - 1)) (by omega)
  have h3 := blen_lt (wd (wds x) (wl x - 1))
  obtain ⟨n, hn⟩ : ∃ n, blen (wd (wds x) (wl x - 1)) = n + 1 := ⟨_, (Nat.sub_add_cancel h2).symm⟩
  rw [hn] at h1 h3 ⊢
  rw [Nat.add_sub_cancel] at h1
  have e : (4294967296 : Nat) ^ (wl x - 1) = 2 ^ (32 * (wl x - 1)) := by rw [Nat.pow_mul]
  rw [← Nat.add_assoc]
  apply blen_unique
  · rw [Nat.pow_add, ← e, Nat.mul_comm]
    exact Nat.le_trans (Nat.mul_le_mul_right _ h1) (by omega)
  · rw [Nat.add_assoc, Nat.pow_add, ← e, Nat.mul_comm]
    have : (wd (wds x) (wl x - 1) + 1) * 4294967296 ^ (wl x - 1) ≤ 2 ^ (n + 1) * 4294967296 ^ (wl x - 1) := Nat.mul_le_mul_right _ h3
    rw [Nat.add_mul, Nat.one_mul] at this
    omega
theorem norm_lz {t : Nat} (h0 : 0 < t) (h : t < 4294967296) : 32 - blen t < 32 ∧ blen t ≤ 32 ∧ 2147483648 ≤ t * 2 ^ (32 - blen t) ∧ t * 2 ^ (32 - blen t) < 4294967296 := by
  obtain ⟨h1, h2⟩ := blen_le (x := t) (by omega)
  have h3 := blen_lt t
  have h4 := blen_le_of_lt (x := t) (n := 32) h
  refine ⟨by omega, h4, ?_, ?_⟩
  · have : 2 ^ (blen t - 1) * 2 ^ (32 - blen t) ≤ t * 2 ^ (32 - blen t) := Nat.mul_le_mul_right _ h1
    rw [← Nat.pow_add, show blen t - 1 + (32 - blen t) = 31 from by omega] at this
    exact this
  · have : t * 2 ^ (32 - blen t) < 2 ^ blen t * 2 ^ (32 - blen t) := Nat.mul_lt_mul_of_pos_right h3 (Nat.pow_pos (by omega))
    rw [← Nat.pow_add, show blen t + (32 - blen t) = 32 from by omega] at this
    exact this
theorem norm_div {y n : Nat} (h : y ≠ 0) (hn : n = 32 - blen (wd (wds y) (wl y - 1))) : n < 32 ∧ wl (y * 2 ^ n) = wl y ∧ 2147483648 ≤ wd (wds (y * 2 ^ n)) (wl y - 1) := by
  have ht := top_pos h
  have hs := top_split h
  have hr := Nat.mod_lt y (pow_pos_B (wl y - 1))
  have hw : wl y ≠ 0 := fun e => h (wl_eq_zero.1 e)
  obtain ⟨h1, h2, h3, h4⟩ := norm_lz ht (wd_lt (lim_wds y) _)
  rw [← hn] at h1 h3 h4
  have hN : 0 < 2 ^ n := Nat.pow_pos (by omega)
  have hlt : y * 2 ^ n < 4294967296 ^ wl y := by
    have a : y < (wd (wds y) (wl y - 1) + 1) * 4294967296 ^ (wl y - 1) := by rw [Nat.add_mul]; omega
    have b : y * 2 ^ n < (wd (wds y) (wl y - 1) + 1) * 4294967296 ^ (wl y - 1) * 2 ^ n := Nat.mul_lt_mul_of_pos_right a hN
    have c : (wd (wds y) (wl y - 1) + 1) * 2 ^ n ≤ 4294967296 := by
      have h5 := blen_lt (wd (wds y) (wl y - 1))
      have h6 : (wd (wds y) (wl y - 1) + 1) * 2 ^ n ≤ 2 ^ blen (wd (wds y) (wl y - 1)) * 2 ^ n := Nat.mul_le_mul_right _ h5
      rw [← Nat.pow_add, show blen (wd (wds y) (wl y - 1)) + n = 32 from by omega] at h6
      exact h6
    have d : (wd (wds y) (wl y - 1) + 1) * 4294967296 ^ (wl y - 1) * 2 ^ n = (wd (wds y) (wl y - 1) + 1) * 2 ^ n * 4294967296 ^ (wl y - 1) := by
      rw [Nat.mul_assoc, Nat.mul_comm (4294967296 ^ (wl y - 1)), ← Nat.mul_assoc]
    have e : (wd (wds y) (wl y - 1) + 1) * 2 ^ n * 4294967296 ^ (wl y - 1) ≤ 4294967296 * 4294967296 ^ (wl y - 1) := Nat.mul_le_mul_right _ c
    have f : 4294967296 * 4294967296 ^ (wl y - 1) = 4294967296 ^ wl y := by rw [Nat.mul_comm, ← Nat.pow_succ, show (wl y - 1).succ = wl y from by omega]
    omega
  have hge : 2147483648 * 4294967296 ^ (wl y - 1) ≤ y * 2 ^ n := by
    have a : wd (wds y) (wl y - 1) * 4294967296 ^ (wl y - 1) ≤ y := by omega
    have b : wd (wds y) (wl y - 1) * 4294967296 ^ (wl y - 1) * 2 ^ n ≤ y * 2 ^ n := Nat.mul_le_mul_right _ a
    have d : wd (wds y) (wl y - 1) * 4294967296 ^ (wl y - 1) * 2 ^ n = wd (wds y) (wl y - 1) * 2 ^ n * 4294967296 ^ (wl y - 1) := by
      rw [Nat.mul_assoc, Nat.mul_comm (4294967296 ^ (wl y - 1)), ← Nat.mul_assoc]
    have e : 2147483648 * 4294967296 ^ (wl y - 1) ≤ wd (wds y) (wl y - 1) * 2 ^ n * 4294967296 ^ (wl y - 1) := Nat.mul_le_mul_right _ h3
    omega
  have hq : 2147483648 ≤ y * 2 ^ n / 4294967296 ^ (wl y - 1) := (Nat.le_div_iff_mul_le (pow_pos_B _)).2 hge
  refine ⟨h1, ?_, ?_⟩
  · have a : wl (y * 2 ^ n) ≤ wl y := wl_le.2 hlt
    have b : wl y - 1 < wl (y * 2 ^ n) := by
      refine Nat.lt_of_not_le fun hc => ?_
      have := wl_le.1 hc
      have p := pow_pos_B (wl y - 1)
      omega
    omega
  · rw [wd_wds, Nat.mod_eq_of_lt]
    · exact hq
    · rw [Nat.div_lt_iff_lt_mul (pow_pos_B _), Nat.mul_comm 4294967296, ← Nat.pow_succ, show (wl y - 1).succ = wl y from by omega]
      exact hlt
theorem div_shift (x y n : Nat) : x * 2 ^ n / (y * 2 ^ n) = x / y ∧ x * 2 ^ n % (y * 2 ^ n) / 2 ^ n = x % y := by
  have hN : 0 < 2 ^ n := Nat.pow_pos (by omega)
  refine ⟨Nat.mul_div_mul_right _ _ hN, ?_⟩
  rw [Nat.mul_mod_mul_right, Nat.mul_div_cancel _ hN]
theorem divAt_start {x V m n : Nat} {u q : List Nat} (hu : val u = x * 2 ^ n) (hlu : u.length = wl x + 1) (hn : n < 32) (hV : wl V = m) (hm : 0 < m) (hmx : m ≤ wl x) (ht : 2147483648 ≤ wd (wds V) (m - 1)) (hq : q.length = wl x + 1 - m) :
    divAt (x * 2 ^ n) V (wl x + 1 - m) u q := by
  refine ⟨by rw [List.drop_eq_nil_of_le (by omega)]; simp [val, hu], ?_⟩
  have hs := val_split u (wl x + 1 - m) (by omega)
  rw [hu] at hs
  have hV2 := top_split (x := V) (by
    intro e
    rw [e, wl_zero] at hV
    omega)
  rw [hV] at hV2
  have hx := lt_pow_wl x
  have hN : 2 ^ n ≤ 2147483648 := by
    have := Nat.pow_le_pow_right (n := 2) (by omega) (show n ≤ 31 by omega)
    omega
  have hP := pow_pos_B (wl x + 1 - m)
  refine Nat.lt_of_not_le fun hc => ?_
  have a1 : 2147483648 * 4294967296 ^ (m - 1) ≤ V := by
    have : 2147483648 * 4294967296 ^ (m - 1) ≤ wd (wds V) (m - 1) * 4294967296 ^ (m - 1) := Nat.mul_le_mul_right _ ht
    omega
  have a2 : 4294967296 ^ (wl x + 1 - m) * (2147483648 * 4294967296 ^ (m - 1)) ≤ 4294967296 ^ (wl x + 1 - m) * val (List.drop (wl x + 1 - m) u) := Nat.mul_le_mul_left _ (Nat.le_trans a1 hc)
  have a3 : 4294967296 ^ (wl x + 1 - m) * (2147483648 * 4294967296 ^ (m - 1)) = 2147483648 * 4294967296 ^ wl x := by
    rw [Nat.mul_left_comm, ← Nat.pow_add, show wl x + 1 - m + (m - 1) = wl x from by omega]
  have a4 : x * 2 ^ n < 4294967296 ^ wl x * 2147483648 := Nat.mul_lt_mul_of_lt_of_le hx hN (by omega)
  omega
end Go.Proofs.YtcbkijeonilcjaaGreat

/- Package nat: the small functions. -/
namespace Go.Proofs.YtcbkijeonilcjaaGreat
open Go.RowKit

set_option maxHeartbeats 400000 in
theorem nat_cut (A : Option Addr) (n c : Nat) (l : List Nat) (w : World) (h : Rd w A n c l) :
    Calls Tryz.prog 145 #[.slice A n c] w fun e w' => e = .returned (.slice A (tl l n) c) ∧ Drn w w' := by
  have hb := h.big.1
  have hnc := h.cap
  go_enter Tryz.func145, Tryz.ntmps145
  go_wp2
  go_loop [3] (fun i => ∃ k : Nat, k ≤ n ∧ i = .int .i64 k ∧ tl l k = tl l n) (fun i => (intOf i).toNat)
  case atStart => exact ⟨n, Nat.le_refl _, rfl, rfl⟩
  case round =>
    obtain ⟨k, hk, rfl, ht⟩ := hrel
    have HT := Lib.hid ht
    clear ht
    by_cases hlt : 0 < k
    · obtain ⟨b, o, rfl, hc⟩ := h.cell (by omega)
      obtain ⟨k, rfl⟩ : ∃ m, k = m + 1 := ⟨k - 1, by omega⟩
      have hw := wd_lt h.lim k
      have hc1 := hc k (by omega)
      clear hc
      by_cases hz : wd l k = 0
      · have hz2 : ((wd l k : Nat) : Int) = 0 := by omega
        have HZ := Lib.hid hz
        clear hz
        go_wp2
        go_round
        case rel => exact ⟨k, by omega, by go_num, by rw [← HT.out, tl, if_pos HZ.out]⟩
        case measure => simp [intOf]
      · have hz2 : (((wd l k : Nat) : Int) == 0) = false := by simp; omega
        have HZ := Lib.hid hz
        clear hz
        go_wp2
        go_ret
        exact ⟨by rw [← HT.out, tl, if_neg HZ.out]; rfl, Drn.refl _⟩
    · obtain rfl : k = 0 := by omega
      go_wp2
      go_ret
      exact ⟨by rw [← HT.out, tl]; rfl, Drn.refl _⟩
theorem nat_cut' (A : Option Addr) (n c x : Nat) (l : List Nat) (w : World) (h : Rd w A n c l) (hx : val l = x) :
    Calls Tryz.prog 145 #[.slice A n c] w fun e w' => e = .returned (.slice A (wl x) c) ∧ Drn w w' :=
  (nat_cut A n c l w h).mono fun e w' ⟨he, hw⟩ => ⟨by rw [he, ← hx, ← tl_len h.lim, h.len], hw⟩

set_option maxHeartbeats 400000 in
theorem nat_Compare (A A' : Option Addr) (n c n' c' x y : Nat) (l l' : List Nat) (w : World) (h : Rd w A n c l) (h' : Rd w A' n' c' l') (hx : val l = x) (hy : val l' = y) :
    Calls Tryz.prog 71 #[.slice A n c, .slice A' n' c'] w fun e w' => e = .returned (.int .i64 (cmpN x y)) ∧ Drn w w' := by
  have H := h.cut
  have H' := h'.cut
  rw [hx] at H
  rw [hy] at H'
  have HX := Lib.hid hx
  have HY := Lib.hid hy
  clear hx hy
  go_enter Tryz.func71, Tryz.ntmps71
  go_wp2_with fail
  refine (nat_cut' A n c x l _ h HX.out).mono ?_
  rintro e w1 ⟨rfl, n1, rfl⟩
  go_wp2_with fail
  refine (nat_cut' A' n' c' y l' _ (h'.drewN _) HY.out).mono ?_
  rintro e w1 ⟨rfl, n2, rfl⟩
  have hb1 := H.big.1
  have hc1 := H.cap
  have hb2 := H'.big.1
  have hc2 := H'.cap
  by_cases hl : wl x < wl y
  · have hl2 : ((wl x : Int) != (wl y : Int)) = true := by rw [bne_iff_ne]; omega
    go_wp2
    go_ret
    exact ⟨ret_int (cmpN_lt (lt_of_wl hl)).symm, _, rfl⟩
  by_cases hg : wl y < wl x
  · have hl2 : ((wl x : Int) != (wl y : Int)) = true := by rw [bne_iff_ne]; omega
    go_wp2
    go_ret
    exact ⟨ret_int (cmpN_gt (lt_of_wl hg)).symm, _, rfl⟩
  have hl2 : ((wl x : Int) != (wl y : Int)) = false := by rw [bne_eq_false_iff_eq]; omega
  go_wp2
  go_loopw [5] (fun i wr => ∃ (k : Nat) (z : Int), k ≤ wl x ∧ i = .int .i64 z ∧ z + 1 = k ∧ eqAt x y k ∧ Drn w wr) (fun i _ => (intOf i + 1).toNat)
  case atStart => exact ⟨wl x, _, Nat.le_refl _, rfl, by omega, eqAt_top (Nat.le_refl _) (by omega), _, rfl⟩
  case round =>
    obtain ⟨k, z, hk, rfl, hz, hE, n3, rfl⟩ := hrel
    by_cases hlt : 0 < k
    · obtain ⟨k, rfl⟩ : ∃ m, k = m + 1 := ⟨k - 1, by omega⟩
      obtain rfl : z = k := by omega
      clear hz
      obtain ⟨b, o, rfl, hc⟩ := H.cell (by omega)
      obtain ⟨b', o', rfl, hc'⟩ := H'.cell (by omega)
      have d1 := hc k (by omega)
      have d2 := hc' k (by omega)
      have l1 := wd_lt H.lim k
      have l2 := wd_lt H'.lim k
      clear hc hc'
      by_cases hd : wd (wds x) k < wd (wds y) k
      · have hd2 : decide (wd (wds x) k < wd (wds y) k) = true := by simp [hd]
        go_wp2
        go_quiet (fail)
        go_wp2
        go_ret
        exact ⟨ret_int (cmpN_lt (eqAt_lt hE hd)).symm, (by first | exact ⟨_, rfl⟩ | exact (drn1 _ _).step _ | exact ((drn1 _ _).step _).step _ | (repeat' (first | exact Drn.refl _ | apply Drn.step)))⟩
      by_cases hd' : wd (wds y) k < wd (wds x) k
      · go_wp2
        go_quiet (fail)
        go_wp2
        go_quiet (fail)
        go_wp2
        go_ret
        exact ⟨ret_int (cmpN_gt (eqAt_lt hE.symm hd')).symm, (by first | exact ⟨_, rfl⟩ | exact (drn1 _ _).step _ | exact ((drn1 _ _).step _).step _ | (repeat' (first | exact Drn.refl _ | apply Drn.step)))⟩
      · go_wp2
        go_quiet (fail)
        go_wp2
        go_quiet (fail)
        go_wp2
        go_roundw
        case rel => exact ⟨k, _, by omega, rfl, by omega, eqAt_step hE (by omega), (by first | exact ⟨_, rfl⟩ | exact (drn1 _ _).step _ | exact ((drn1 _ _).step _).step _ | (repeat' (first | exact Drn.refl _ | apply Drn.step)))⟩
        case measure => simp [intOf]
    · obtain rfl : k = 0 := by omega
      go_wp2
      go_ret
      exact ⟨ret_int (by rw [eqAt_zero hE, cmpN_eq]), _, rfl⟩

/-- No nought at the end. -/
def nfB (l : List Nat) : Bool := l.length == 0 || wd l (l.length - 1) != 0
theorem nfB_iff {l : List Nat} (hl : lim l) : nfB l = true ↔ nf l := by
  unfold nfB nf
  cases l with
  | nil => simp [lim_nil]
  | cons x l => simp [hl]
/-- The error of a natural number. -/
def chkN (l : List Nat) : Int := if 8192 < l.length then 3 else if nfB l = true then 0 else 11
theorem chkN_wds {x : Nat} (h : wl x ≤ 8192) : chkN (wds x) = 0 := by
  unfold chkN
  rw [wl_def, if_neg (by omega), if_pos ((nfB_iff (lim_wds x)).2 (nf_wds x))]

set_option maxHeartbeats 400000 in
theorem nat_Check (A : Option Addr) (n c : Nat) (l : List Nat) (w : World) (h : Rd w A n c l) :
    Calls Tryz.prog 148 #[.slice A n c] w fun e w' => e = .returned (.int .i64 (chkN l)) ∧ Drn w w' := by
  have hl := h.len
  subst hl
  have hb := h.big.1
  have hnc := h.cap
  by_cases h1 : 8192 < l.length
  · go_enter Tryz.func148, Tryz.ntmps148
    go_wp2
    go_ret
    exact ⟨ret_int (by rw [chkN, if_pos h1]), (by first | exact ⟨_, rfl⟩ | exact (drn1 _ _).step _ | exact ((drn1 _ _).step _).step _ | (repeat' (first | exact Drn.refl _ | apply Drn.step)))⟩
  by_cases h2 : 0 < l.length
  · obtain ⟨b, o, rfl, hc⟩ := h.cell h2
    have d1 := hc (l.length - 1) (by omega)
    have l1 := wd_lt h.lim (l.length - 1)
    clear hc
    by_cases h3 : wd l (l.length - 1) = 0
    · have hz : (((wd l (l.length - 1) : Nat) : Int) == 0) = true := by rw [h3]; rfl
      have hn : Hid (nfB l = false) := by show nfB l = false; unfold nfB; rw [h3]; simp; intro e; rw [e] at h2; simp at h2
      clear h3
      go_enter Tryz.func148, Tryz.ntmps148
      go_wp2
      go_ret
      exact ⟨ret_int (by rw [chkN, if_neg h1, hn.out]; rfl), (by first | exact ⟨_, rfl⟩ | exact (drn1 _ _).step _ | exact ((drn1 _ _).step _).step _ | (repeat' (first | exact Drn.refl _ | apply Drn.step)))⟩
    · have hz : (((wd l (l.length - 1) : Nat) : Int) == 0) = false := by simp; omega
      have hn : Hid (nfB l = true) := by show nfB l = true; unfold nfB; simp [h3]
      clear h3
      go_enter Tryz.func148, Tryz.ntmps148
      go_wp2
      go_ret
      exact ⟨ret_int (by rw [chkN, if_neg h1, hn.out]; rfl), (by first | exact ⟨_, rfl⟩ | exact (drn1 _ _).step _ | exact ((drn1 _ _).step _).step _ | (repeat' (first | exact Drn.refl _ | apply Drn.step)))⟩
  · have hn : Hid (nfB l = true) := by show nfB l = true; unfold nfB; rw [show l.length = 0 from by omega]; rfl
    go_enter Tryz.func148, Tryz.ntmps148
    go_wp2
    go_ret
    exact ⟨ret_int (by rw [chkN, if_neg h1, hn.out]; rfl), (by first | exact ⟨_, rfl⟩ | exact (drn1 _ _).step _ | exact ((drn1 _ _).step _).step _ | (repeat' (first | exact Drn.refl _ | apply Drn.step)))⟩

/-- of two numbers in their one form -/
theorem nat_checked (A A' : Option Addr) (c c' x y : Nat) (w : World) (h : Rd w A (wl x) c (wds x)) (h' : Rd w A' (wl y) c' (wds y)) (hx : wl x ≤ 8192) (hy : wl y ≤ 8192) :
    Calls Tryz.prog 225 #[.slice A (wl x) c, .slice A' (wl y) c'] w fun e w' => e = .returned (.int .i64 0) ∧ Drn w w' := by
  have e1 := Lib.hid (chkN_wds hx)
  have e2 := Lib.hid (chkN_wds hy)
  go_enter Tryz.func225, Tryz.ntmps225
  go_wp2_with fail
  refine (nat_Check A _ c _ _ h).mono ?_
  rintro e w1 ⟨rfl, n1, rfl⟩
  rw [e1.out]
  go_wp2_with fail
  refine (nat_Check A' _ c' _ _ (h'.drewN _)).mono ?_
  rintro e w1 ⟨rfl, n2, rfl⟩
  rw [e2.out]
  go_wp2
  go_ret
  exact ⟨rfl, (by first | exact ⟨_, rfl⟩ | exact (drn1 _ _).step _ | exact ((drn1 _ _).step _).step _ | (repeat' (first | exact Drn.refl _ | apply Drn.step)))⟩

set_option maxHeartbeats 400000 in
theorem nat_told (A : Option Addr) (n c x : Nat) (l : List Nat) (w : World) (h : Rd w A n c l) (hx : val l = x) (hw : wl x ≤ 8192) :
    Calls Tryz.prog 226 #[.slice A n c] w fun e w' => e = .returned (.tuple #[.slice A (wl x) c, .int .i64 0]) ∧ Drn w w' := by
  have HX := Lib.hid hx
  clear hx
  go_enter Tryz.func226, Tryz.ntmps226
  go_wp2_with fail
  refine (nat_cut' A n c x l _ h HX.out).mono ?_
  rintro e w1 ⟨rfl, n1, rfl⟩
  go_wp2
  go_ret2
  exact ⟨rfl, (by first | exact ⟨_, rfl⟩ | exact (drn1 _ _).step _ | exact ((drn1 _ _).step _).step _ | (repeat' (first | exact Drn.refl _ | apply Drn.step)))⟩

theorem u32_info : (Tryz.prog.info? 116).map (fun i => (i.zero, i.size, i.bytes)) = some (some (.int .u32 0), 1, 4) := by kernel_rfl

theorem nat_Of (x : Nat) (w : World) (hx : x < 18446744073709551616) :
    Calls Tryz.prog 151 #[.int .u64 x] w fun e w' => ∃ v, e = .returned v ∧ Own 116 w' w.heap.size v (wds x) ∧ Below w.heap.size w w' := by
  have hA : Ar 116 (w.alloc (.cells #[.int .u32 ((x : Int) % 4294967296), .int .u32 ((x : Int) / 4294967296)] 116)) w.heap.size 0 2 2 [x % 4294967296, x / 4294967296] :=
    ⟨_, heap_alloc_new w _, by simp, by omega, ⟨by omega, by unfold maxLen; omega⟩, rfl, lim_two x hx, fun j hj => by
      rcases (by omega : j = 0 ∨ j = 1) with rfl | rfl
      · simp [wd]
      · simp [wd]⟩
  have hB : Below w.heap.size w (w.alloc (.cells #[.int .u32 ((x : Int) % 4294967296), .int .u32 ((x : Int) / 4294967296)] 116)) := (Below.refl _ _).alloc (Nat.le_refl _) _
  have hA' := hA.cut
  rw [val_two x] at hA'
  go_enter Tryz.func151, Tryz.ntmps151
  go_wp2_with fail
  refine (nat_cut' _ 2 2 x [x % 4294967296, x / 4294967296] _ hA.rd (val_two x)).mono ?_
  rintro e w1 ⟨rfl, n1, rfl⟩
  go_wp2
  go_ret
  exact ⟨_, rfl, .inr ⟨_, 0, _, 2, rfl, Nat.le_refl _, hA'.drewN _⟩, below_drewN hB _⟩

/-- slices.Clone of a list of words. -/
theorem clone (A : Option Addr) (n c : Nat) (l : List Nat) (w : World) (h : Rd w A n c l) :
    Calls Tryz.prog 227 #[.slice A n c] w fun e w' => ∃ v, e = .returned v ∧ Own 116 w' w.heap.size v l ∧ Below w.heap.size w w' := by
  obtain ⟨i0, hi0, hz0, hz1, hz2⟩ := info_parts u32_info
  have HL := Lib.hid h.len
  have hl := h.lim
  have hb := h.big.1
  have hq := fun (w : World) => Lib.run_eql_slice_nil (P := Tryz.prog) w 22 116 A n c 0 0 Tryz.underlying22
  rcases A with _ | ad
  · have h0 : n = 0 := by
      rcases Nat.eq_zero_or_pos n with h0 | h0
      · exact h0
      · obtain ⟨b, o, e, _⟩ := h.cell h0
        cases e
    subst h0
    obtain rfl : l = [] := List.eq_nil_of_length_eq_zero (by have := HL.out; omega)
    go_enter Tryz.func227, Tryz.ntmps227
    go_wp2
    go_ret
    exact ⟨_, rfl, Own.nil _ _ _, Below.refl _ _⟩
  · have HO := Lib.hid (World.ownsRow_lit (base := w.heap.size) (e := 116) (size := 1) w #[] 0 (Nat.le_refl _) (Nat.zero_le _) rfl)
    have HR := Lib.hid (h.below ((Below.refl _ _).alloc (Nat.le_refl _) (.cells #[] 116)))
    go_enter Tryz.func227, Tryz.ntmps227
    go_wp2_with (at_builtin; refine wpList_append_rd _ rfl (.tmp 5) (.tmp 6) 22 rfl w.heap.size 116 i0 _ Tryz.underlying22 hi0 hz0 hz1 hz2 rfl (.slice (some ⟨w.heap.size, 0, none⟩) 0 0) 0 [] rfl HO.out (some ad) n c l rfl HR.out (by omega) (by simp) ?_; intro v1 w1 hown hgr)
    go_ret
    exact ⟨_, rfl, Own.of_row (by simpa using hown) hl hb, ((Below.refl _ _).alloc (Nat.le_refl _) _).grown hgr (by simp) (fun k hk => by simp [Value.ownBlock] at hk; omega)⟩

set_option maxHeartbeats 400000 in
theorem nat_Uint64_no (A : Option Addr) (n c x : Nat) (l : List Nat) (w : World) (h : Rd w A n c l) (hx : val l = x) (hb : 18446744073709551616 ≤ x) :
    Calls Tryz.prog 196 #[.slice A n c] w fun e w' => e = .returned (.tuple #[.int .u64 0, .bool false]) ∧ Drn w w' := by
  have HX := Lib.hid hx
  have hw : 2 < wl x := by have := @wl_le x 2; omega
  clear hx hb
  go_enter Tryz.func196, Tryz.ntmps196
  go_wp2_with fail
  refine (nat_cut' A n c x l _ h HX.out).mono ?_
  rintro e w1 ⟨rfl, n1, rfl⟩
  go_wp2
  go_ret2
  exact ⟨rfl, (by first | exact ⟨_, rfl⟩ | exact (drn1 _ _).step _ | exact ((drn1 _ _).step _).step _ | (repeat' (first | exact Drn.refl _ | apply Drn.step)))⟩

set_option maxHeartbeats 400000 in
theorem nat_Uint64 (A : Option Addr) (n c x : Nat) (l : List Nat) (w : World) (h : Rd w A n c l) (hx : val l = x) (hb : x < 18446744073709551616) :
    Calls Tryz.prog 196 #[.slice A n c] w fun e w' => e = .returned (.tuple #[.int .u64 x, .bool true]) ∧ Drn w w' := by
  have HX := Lib.hid hx
  have hw : wl x ≤ 2 := by have := @wl_le x 2; omega
  have H := h.cut
  rw [hx] at H
  have HB := Lib.hid hb
  clear hx hb
  go_enter Tryz.func196, Tryz.ntmps196
  go_wp2_with fail
  refine (nat_cut' A n c x l _ h HX.out).mono ?_
  rintro e w1 ⟨rfl, n1, rfl⟩
  go_wp2
  go_loop [4, 14] (fun v i => ∃ k a : Nat, k ≤ wl x ∧ i = .int .i64 k ∧ v = .int .u64 a ∧ modAt x k a) (fun _ i => wl x - (intOf i).toNat)
  case atStart => exact ⟨0, 0, Nat.zero_le _, rfl, rfl, by simp [modAt, Nat.mod_one]⟩
  case round =>
    obtain ⟨k, a, hk, rfl, rfl, hm⟩ := hrel
    by_cases hlt : k < wl x
    · obtain ⟨b, o, rfl, hc⟩ := H.cell (by omega)
      have d1 := hc k hlt
      have l1 := wd_lt H.lim k
      clear hc
      rcases (by omega : k = 0 ∨ k = 1) with rfl | rfl
      · have d1 : w.cell? ⟨b, o, none⟩ = some (.int .u32 (wd (wds x) 0 : Nat)) := d1
        obtain rfl : a = 0 := by simpa [modAt, Nat.mod_one] using hm
        go_wp2
        go_round
        case rel => exact ⟨1, wd (wds x) 0, by omega, rfl, by
          rw [show bits BinOp.or IntKind.u64 0 ((wd (wds x) 0 : Nat) : Int) = ((wd (wds x) 0 : Nat) : Int) from by simpa using u64_or_nat 0 (wd (wds x) 0) (by omega) (by omega)], by rw [modAt, wd_wds]; simp⟩
        case measure => simp [intOf]; omega
      · have ha : a < 4294967296 := by rw [hm]; omega
        go_wp2
        go_round
        case rel => exact ⟨2, a + 4294967296 * wd (wds x) 1, by omega, rfl, by rw [or_join a (wd (wds x) 1) (by omega) l1], by
          rw [modAt, wd_wds, hm]
          have := HB.out
          omega⟩
        case measure => simp [intOf]; omega
    · have ek : a = x := by rw [hm]; exact mod_top (by omega)
      subst ek
      go_wp2
      go_ret2
      exact ⟨rfl, (by first | exact ⟨_, rfl⟩ | exact (drn1 _ _).step _ | exact ((drn1 _ _).step _).step _ | (repeat' (first | exact Drn.refl _ | apply Drn.step)))⟩
end Go.Proofs.YtcbkijeonilcjaaGreat
