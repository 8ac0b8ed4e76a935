namespace Go.Proofs.YtcbkijeonilcjaaGreat

/-- The word at a place; 0 behind the end. -/
def wd (l : List Nat) (i : Nat) : Nat := l.getD i 0

/-- A list of words as a number, the lowest first. -/
def val : List Nat → Nat
  | [] => 0
  | x :: l => x + 4294967296 * val l

def lim (l : List Nat) : Prop := ∀ x ∈ l, x < 4294967296

/-- The words of a number. -/
def wds (x : Nat) : List Nat := if h : x = 0 then [] else x % 4294967296 :: wds (x / 4294967296)
  termination_by x
  decreasing_by omega

def wl (x : Nat) : Nat := (wds x).length

theorem wds_zero : wds 0 = [] := by rw [wds]; simp
theorem wds_pos {x : Nat} (h : x ≠ 0) : wds x = x % 4294967296 :: wds (x / 4294967296) := by rw [wds]; simp [h]
theorem wl_zero : wl 0 = 0 := by simp [wl, wds_zero]
theorem wl_pos {x : Nat} (h : x ≠ 0) : wl x = wl (x / 4294967296) + 1 := by simp [wl, wds_pos h]

theorem lim_nil : lim [] := by intro x h; cases h
theorem lim_cons {x : Nat} {l : List Nat} (h : x < 4294967296) (hl : lim l) : lim (x :: l) := by
  intro y hy
  cases hy with
  | head => exact h
  | tail _ h' => exact hl _ h'
theorem lim_append {a b : List Nat} (ha : lim a) (hb : lim b) : lim (a ++ b) := by
  intro x hx
  rcases List.mem_append.1 hx with h | h
  · exact ha _ h
  · exact hb _ h
theorem lim_of_append_left {a b : List Nat} (h : lim (a ++ b)) : lim a := fun x hx => h x (List.mem_append.2 (.inl hx))
theorem lim_of_append_right {a b : List Nat} (h : lim (a ++ b)) : lim b := fun x hx => h x (List.mem_append.2 (.inr hx))
theorem lim_take {l : List Nat} (h : lim l) (n : Nat) : lim (l.take n) := fun x hx => h x (List.mem_of_mem_take hx)
theorem lim_drop {l : List Nat} (h : lim l) (n : Nat) : lim (l.drop n) := fun x hx => h x (List.mem_of_mem_drop hx)
theorem wd_lt {l : List Nat} (h : lim l) (i : Nat) : wd l i < 4294967296 := by
  unfold wd
  rw [List.getD_eq_getElem?_getD]
  cases hi : l[i]? with
  | none => simp
  | some x => exact h x (List.mem_of_getElem? hi)
theorem lim_replicate (n : Nat) : lim (List.replicate n 0) := by
  intro x hx
  rw [List.eq_of_mem_replicate hx]; omega

theorem wd_append_left {a b : List Nat} {j : Nat} (h : j < a.length) : wd (a ++ b) j = wd a j := by
  unfold wd
  rw [List.getD_eq_getElem?_getD, List.getD_eq_getElem?_getD, List.getElem?_append_left h]
theorem wd_append_right {a b : List Nat} {j : Nat} (h : a.length ≤ j) : wd (a ++ b) j = wd b (j - a.length) := by
  unfold wd
  rw [List.getD_eq_getElem?_getD, List.getD_eq_getElem?_getD, List.getElem?_append_right h]
theorem wd_take {l : List Nat} {j k : Nat} (h : j < k) : wd (l.take k) j = wd l j := by
  simp [wd, h]
theorem wd_drop (l : List Nat) (j k : Nat) : wd (l.drop k) j = wd l (k + j) := by
  simp [wd]
theorem wd_set_eq {l : List Nat} {i : Nat} (x : Nat) (h : i < l.length) : wd (l.set i x) i = x := by
  simp [wd, h]
theorem wd_set_ne {l : List Nat} {i j : Nat} (x : Nat) (h : i ≠ j) : wd (l.set i x) j = wd l j := by
  simp [wd, List.getElem?_set_ne h]
theorem val_wds (x : Nat) : val (wds x) = x := by
  induction x using Nat.strongRecOn with
  | _ x ih =>
    by_cases h : x = 0
    · subst h; simp [wds_zero, val]
    · rw [wds_pos h, val, ih _ (by omega)]; omega
theorem lim_wds (x : Nat) : lim (wds x) := by
  induction x using Nat.strongRecOn with
  | _ x ih =>
    by_cases h : x = 0
    · subst h; rw [wds_zero]; exact lim_nil
    · rw [wds_pos h]; exact lim_cons (by omega) (ih _ (by omega))

theorem val_append (a b : List Nat) : val (a ++ b) = val a + 4294967296 ^ a.length * val b := by
  induction a with
  | nil => simp [val]
  | cons x a ih => simp only [List.cons_append, val, ih, List.length_cons, Nat.pow_succ]; grind
theorem val_lt {l : List Nat} (h : lim l) : val l < 4294967296 ^ l.length := by
  induction l with
  | nil => simp [val]
  | cons x l ih =>
    have h1 := ih (fun y hy => h y (.tail _ hy))
    have h2 := h x (.head _)
    simp only [val, List.length_cons, Nat.pow_succ]; omega

/-- In the one form: no nought at the end. -/
def nf (l : List Nat) : Prop := lim l ∧ (l ≠ [] → wd l (l.length - 1) ≠ 0)

theorem nf_nil : nf [] := ⟨lim_nil, fun h => absurd rfl h⟩
theorem nf_tail {x : Nat} {l : List Nat} (h : nf (x :: l)) : nf l := by
  refine ⟨fun y hy => h.1 y (.tail _ hy), fun hl => ?_⟩
  have := h.2 (by simp)
  obtain ⟨n, hn⟩ : ∃ n, l.length = n + 1 := ⟨l.length - 1, by have := List.length_pos_iff.2 hl; omega⟩
  simpa [hn, wd] using this
theorem val_ne_zero {l : List Nat} (h : nf l) (hl : l ≠ []) : val l ≠ 0 := by
  induction l with
  | nil => exact absurd rfl hl
  | cons x l ih =>
    simp only [val]
    by_cases hl' : l = []
    · subst hl'
      have := h.2 (by simp)
      simp [wd] at this
      simp [val]; omega
    · have := ih (nf_tail h) hl'
      omega
theorem wds_val {l : List Nat} (h : nf l) : wds (val l) = l := by
  induction l with
  | nil => simp [val, wds_zero]
  | cons x l ih =>
    have hx := h.1 x (.head _)
    rw [wds_pos (val_ne_zero h (by simp))]
    simp only [val]
    rw [show (x + 4294967296 * val l) % 4294967296 = x from by omega, show (x + 4294967296 * val l) / 4294967296 = val l from by omega, ih (nf_tail h)]
theorem nf_wds (x : Nat) : nf (wds x) := by
  induction x using Nat.strongRecOn with
  | _ x ih =>
    by_cases h : x = 0
    · subst h; rw [wds_zero]; exact nf_nil
    · rw [wds_pos h]
      refine ⟨lim_cons (by omega) (lim_wds _), fun _ => ?_⟩
      by_cases hq : x / 4294967296 = 0
      · rw [hq, wds_zero]; simp [wd]; omega
      · have h1 := (ih _ (by omega : x / 4294967296 < x)).2 (by rw [wds_pos hq]; simp)
        obtain ⟨n, hn⟩ : ∃ n, (wds (x / 4294967296)).length = n + 1 := ⟨_, by rw [wds_pos hq]; rfl⟩
        simpa [hn, wd] using h1

theorem wl_le {x n : Nat} : wl x ≤ n ↔ x < 4294967296 ^ n := by
  induction n generalizing x with
  | zero =>
    by_cases h : x = 0
    · subst h; simp [wl_zero]
    · rw [wl_pos h]; simp; omega
  | succ n ih =>
    by_cases h : x = 0
    · subst h; simp [wl_zero, Nat.pow_pos]
    · rw [wl_pos h, Nat.pow_succ, Nat.add_le_add_iff_right, ih, Nat.div_lt_iff_lt_mul (by omega)]
theorem wl_eq_zero {x : Nat} : wl x = 0 ↔ x = 0 := by
  have := @wl_le x 0
  simp at this; omega
theorem wl_mono {x y : Nat} (h : x ≤ y) : wl x ≤ wl y := wl_le.2 (Nat.lt_of_le_of_lt h (wl_le.1 (Nat.le_refl _)))
theorem wl_mul (x y : Nat) : wl (x * y) ≤ wl x + wl y := by
  rw [wl_le, Nat.pow_add]
  exact Nat.mul_lt_mul'' (wl_le.1 (Nat.le_refl _)) (wl_le.1 (Nat.le_refl _))
theorem wl_add (x y : Nat) : wl (x + y) ≤ max (wl x) (wl y) + 1 := by
  rw [wl_le, Nat.pow_succ]
  have h1 : x < 4294967296 ^ max (wl x) (wl y) := wl_le.1 (Nat.le_max_left _ _)
  have h2 : y < 4294967296 ^ max (wl x) (wl y) := wl_le.1 (Nat.le_max_right _ _)
  omega
theorem lt_pow_wl (x : Nat) : x < 4294967296 ^ wl x := wl_le.1 (Nat.le_refl _)
theorem pow_le_of_wl {x n : Nat} (h : n < wl x) : 4294967296 ^ n ≤ x := by
  have := @wl_le x n
  omega
/-- a nonzero number is at least the power below its length -/
theorem pow_wl_le {x : Nat} (h : x ≠ 0) : 4294967296 ^ (wl x - 1) ≤ x := by
  have : wl x ≠ 0 := fun e => h (wl_eq_zero.1 e)
  exact pow_le_of_wl (by omega)

/-- What is left when noughts at the end are cut. -/
def tl (l : List Nat) : Nat → Nat
  | 0 => 0
  | n + 1 => if wd l n = 0 then tl l n else n + 1
theorem tl_le (l : List Nat) (n : Nat) : tl l n ≤ n := by
  induction n with
  | zero => simp [tl]
  | succ n ih => simp only [tl]; split <;> omega
theorem take_succ_wd (l : List Nat) (n : Nat) (h : n < l.length) : l.take (n + 1) = l.take n ++ [wd l n] := by
  rw [List.take_succ_eq_append_getElem h]; simp [wd, List.getD, h]
theorem val_tl (l : List Nat) (n : Nat) (h : n ≤ l.length) : val (l.take (tl l n)) = val (l.take n) := by
  induction n with
  | zero => simp [tl]
  | succ n ih =>
    simp only [tl]
    split
    · rename_i hz
      rw [ih (by omega), take_succ_wd _ _ (by omega), val_append, hz]; simp [val]
    · rfl
theorem nf_take_tl {l : List Nat} (hl : lim l) (n : Nat) (h : n ≤ l.length) : nf (l.take (tl l n)) := by
  induction n with
  | zero => simp [tl]; exact nf_nil
  | succ n ih =>
    simp only [tl]
    split
    · exact ih (by omega)
    · rename_i hz
      refine ⟨lim_take hl _, fun _ => ?_⟩
      have : (l.take (n + 1)).length - 1 = n := by simp; omega
      rw [this]
      simpa [wd, List.getD, List.getElem?_take] using hz
theorem take_tl {l : List Nat} (hl : lim l) : l.take (tl l l.length) = wds (val l) := by
  rw [← wds_val (nf_take_tl hl l.length (Nat.le_refl _)), val_tl _ _ (Nat.le_refl _), List.take_length]
theorem tl_len {l : List Nat} (hl : lim l) : tl l l.length = wl (val l) := by
  rw [wl, ← take_tl hl, List.length_take]
  have := tl_le l l.length
  omega
theorem wd_wds (x j : Nat) : wd (wds x) j = x / 4294967296 ^ j % 4294967296 := by
  induction j generalizing x with
  | zero =>
    by_cases h : x = 0
    · subst h; simp [wds_zero, wd]
    · rw [wds_pos h]; simp [wd]
  | succ j ih =>
    by_cases h : x = 0
    · subst h; simp [wds_zero, wd]
    · rw [wds_pos h]
      have : wd (x % 4294967296 :: wds (x / 4294967296)) (j + 1) = wd (wds (x / 4294967296)) j := by simp [wd]
      rw [this, ih, Nat.div_div_eq_div_mul, Nat.pow_succ, Nat.mul_comm]
theorem wl_def (x : Nat) : (wds x).length = wl x := rfl

/-- -1, 0, 1: how two numbers stand to each other. -/
def cmpN (x y : Nat) : Int := if x < y then -1 else if y < x then 1 else 0
/-- They are alike from word k on. -/
def eqAt (x y k : Nat) : Prop := x / 4294967296 ^ k = y / 4294967296 ^ k
theorem eqAt_top {x y k : Nat} (hx : wl x ≤ k) (hy : wl y ≤ k) : eqAt x y k := by
  unfold eqAt
  rw [Nat.div_eq_of_lt (wl_le.1 hx), Nat.div_eq_of_lt (wl_le.1 hy)]
theorem div_step (x k : Nat) : x / 4294967296 ^ k = 4294967296 * (x / 4294967296 ^ (k + 1)) + x / 4294967296 ^ k % 4294967296 := by
  rw [Nat.pow_succ, ← Nat.div_div_eq_div_mul]; omega
theorem eqAt_step {x y k : Nat} (h : eqAt x y (k + 1)) (hd : wd (wds x) k = wd (wds y) k) : eqAt x y k := by
  unfold eqAt at *
  rw [wd_wds, wd_wds] at hd
  rw [div_step x, div_step y, h, hd]
theorem eqAt_lt {x y k : Nat} (h : eqAt x y (k + 1)) (hd : wd (wds x) k < wd (wds y) k) : x < y := by
  unfold eqAt at *
  rw [wd_wds, wd_wds] at hd
  have h1 := div_step x k
  have h2 := div_step y k
  have h3 : x / 4294967296 ^ k < y / 4294967296 ^ k := by omega
  rcases Nat.lt_or_ge x y with h | h
  · exact h
  · exact absurd (Nat.div_le_div_right (c := 4294967296 ^ k) h) (by omega)
theorem eqAt_zero {x y : Nat} (h : eqAt x y 0) : x = y := by simpa [eqAt] using h
theorem eqAt.symm {x y k : Nat} (h : eqAt x y k) : eqAt y x k := Eq.symm h
theorem cmpN_lt {x y : Nat} (h : x < y) : cmpN x y = -1 := by simp [cmpN, h]
theorem cmpN_gt {x y : Nat} (h : y < x) : cmpN x y = 1 := by simp [cmpN, h]; omega
theorem cmpN_eq (x : Nat) : cmpN x x = 0 := by simp [cmpN]
theorem lt_of_wl {x y : Nat} (h : wl x < wl y) : x < y := by
  rcases Nat.lt_or_ge x y with h' | h'
  · exact h'
  · exact absurd (wl_mono h') (by omega)
theorem val_two (x : Nat) : val [x % 4294967296, x / 4294967296] = x := by
  simp [val]; omega
theorem lim_two (x : Nat) (h : x < 18446744073709551616) : lim [x % 4294967296, x / 4294967296] :=
  lim_cons (by omega) (lim_cons (by omega) lim_nil)
/-- the words below k, as a number -/
def modAt (x k v : Nat) : Prop := v = x % 4294967296 ^ k
theorem nf_iff {l : List Nat} : nf l ↔ l = wds (val l) := by
  constructor
  · exact fun h => (wds_val h).symm
  · intro h; rw [h]; exact nf_wds _
end Go.Proofs.YtcbkijeonilcjaaGreat

/- The numbers behind the loops over words. -/
namespace Go.Proofs.YtcbkijeonilcjaaGreat

theorem pow_pos_B (k : Nat) : 0 < 4294967296 ^ k := Nat.pow_pos (by omega)
theorem mod_succ (x k : Nat) : x % 4294967296 ^ (k + 1) = x % 4294967296 ^ k + 4294967296 ^ k * (x / 4294967296 ^ k % 4294967296) := by
  rw [Nat.pow_succ, Nat.mod_mul]
theorem mod_wd (x k : Nat) : x % 4294967296 ^ (k + 1) = x % 4294967296 ^ k + 4294967296 ^ k * wd (wds x) k := by
  rw [mod_succ, wd_wds]
theorem mod_top {x k : Nat} (h : wl x ≤ k) : x % 4294967296 ^ k = x := Nat.mod_eq_of_lt (wl_le.1 h)
theorem wd_out {l : List Nat} {j : Nat} (h : l.length ≤ j) : wd l j = 0 := by
  simp [wd, h]
theorem wd_top {x j : Nat} (h : wl x ≤ j) : wd (wds x) j = 0 := wd_out h

/-- a word put into a list -/
theorem val_set (l : List Nat) (p v : Nat) (h : p < l.length) : val (l.set p v) + 4294967296 ^ p * wd l p = val l + 4294967296 ^ p * v := by
  induction l generalizing p with
  | nil => simp at h
  | cons x l ih =>
    cases p with
    | zero => simp [val, wd]; omega
    | succ p =>
      have := ih p (by simpa using h)
      have e : wd (x :: l) (p + 1) = wd l p := by simp [wd]
      simp only [List.set_cons_succ, val, e, Nat.pow_succ]
      grind
theorem val_take_set (l : List Nat) (k v : Nat) (h : k < l.length) : val ((l.set k v).take (k + 1)) = val (l.take k) + 4294967296 ^ k * v := by
  rw [take_succ_wd _ _ (by simpa using h), val_append, wd_set_eq v h, List.take_set_of_le (Nat.le_refl k)]
  rw [List.length_take, Nat.min_eq_left (by omega)]; simp [val]
theorem val_replicate (n : Nat) : val (List.replicate n 0) = 0 := by
  induction n with
  | zero => simp [val]
  | succ n ih => simp [List.replicate_succ, val, ih]
theorem wd_replicate (n j : Nat) : wd (List.replicate n 0) j = 0 := by
  simp [wd, List.getElem?_replicate]
  split <;> rfl
theorem val_inj {a b : List Nat} (ha : lim a) (hb : lim b) (hl : a.length = b.length) (h : val a = val b) : a = b := by
  induction a generalizing b with
  | nil => cases b with
    | nil => rfl
    | cons y b => simp at hl
  | cons x a ih => cases b with
    | nil => simp at hl
    | cons y b =>
      have h1 := ha x (.head _)
      have h2 := hb y (.head _)
      simp only [val] at h
      rw [ih (fun z hz => ha z (.tail _ hz)) (fun z hz => hb z (.tail _ hz)) (by simpa using hl) (by omega), show x = y from by omega]

/-! ### the sum -/
/-- After k words: what stands in the first k, and the carry. -/
def addAt (x y k c : Nat) (l : List Nat) : Prop := c ≤ 1 ∧ val (l.take k) + c * 4294967296 ^ k = x % 4294967296 ^ k + y % 4294967296 ^ k
theorem addAt_zero (x y : Nat) (l : List Nat) : addAt x y 0 0 l := by
  simp [addAt, val, Nat.mod_one]
theorem addAt_step {x y k c : Nat} {l : List Nat} (h : addAt x y k c l) (hk : k < l.length) :
    addAt x y (k + 1) ((c + wd (wds x) k + wd (wds y) k) / 4294967296) (l.set k ((c + wd (wds x) k + wd (wds y) k) % 4294967296)) := by
  have h1 := wd_lt (lim_wds x) k
  have h2 := wd_lt (lim_wds y) k
  obtain ⟨hc, h⟩ := h
  refine ⟨by omega, ?_⟩
  rw [val_take_set _ _ _ hk, mod_wd, mod_wd]
  generalize wd (wds x) k = dx at *
  generalize wd (wds y) k = dy at *
  have e := Nat.div_add_mod (c + dx + dy) 4294967296
  generalize (c + dx + dy) / 4294967296 = q at *
  generalize (c + dx + dy) % 4294967296 = r at *
  rw [Nat.pow_succ]
  generalize 4294967296 ^ k = P at *
  grind
theorem addAt_end {x y k c : Nat} {l : List Nat} (h : addAt x y k c l) (hx : wl x ≤ k) (hy : wl y ≤ k) (hl : l.length = k + 1) : val (l.set k c) = x + y := by
  obtain ⟨hc, h⟩ := h
  rw [mod_top hx, mod_top hy] at h
  have := val_take_set l k c (by omega)
  rw [List.take_of_length_le (by simp; omega)] at this
  rw [this, ← h, Nat.mul_comm]

/-! ### the difference, in place -/
def subAt (x y k c : Nat) (l : List Nat) : Prop := c ≤ 1 ∧ x % 4294967296 ^ k + c * 4294967296 ^ k = val (l.take k) + y % 4294967296 ^ k
theorem subAt_zero (x y : Nat) (l : List Nat) : subAt x y 0 0 l := by
  simp [subAt, val, Nat.mod_one]
theorem subAt_step {x y k c o c' : Nat} {l : List Nat} (h : subAt x y k c l) (hk : k < l.length) (hc' : c' ≤ 1) (ho : o + c + wd (wds y) k = wd (wds x) k + 4294967296 * c') :
    subAt x y (k + 1) c' (l.set k o) := by
  obtain ⟨hc, h⟩ := h
  refine ⟨hc', ?_⟩
  rw [val_take_set _ _ _ hk, mod_wd, mod_wd]
  generalize wd (wds x) k = dx at *
  generalize wd (wds y) k = dy at *
  rw [Nat.pow_succ]
  generalize 4294967296 ^ k = P at *
  grind
theorem subAt_end {x y k c : Nat} {l : List Nat} (h : subAt x y k c l) (hxy : y ≤ x) (hx : wl x ≤ k) (hl : l.length = k) (hlim : lim l) : val l = x - y := by
  obtain ⟨hc, h⟩ := h
  have hy : wl y ≤ k := Nat.le_trans (wl_mono hxy) hx
  rw [mod_top hx, mod_top hy, List.take_of_length_le (by omega)] at h
  have h1 := val_lt hlim
  rw [hl] at h1
  rcases (by omega : c = 0 ∨ c = 1) with rfl | rfl
  · omega
  · omega

/-! ### the product -/
/-- Row i, k words of it done. -/
def mulAt (x y i k c : Nat) (l : List Nat) : Prop :=
  c < 4294967296 ∧ val l + c * 4294967296 ^ (i + k) = (x % 4294967296 ^ i) * y + wd (wds x) i * (y % 4294967296 ^ k) * 4294967296 ^ i ∧ ∀ j, i + wl y ≤ j → wd l j = 0
def rowAt (x y i : Nat) (l : List Nat) : Prop := val l = (x % 4294967296 ^ i) * y ∧ ∀ j, i + wl y ≤ j → wd l j = 0
theorem rowAt_zero (x y n : Nat) : rowAt x y 0 (List.replicate n 0) := by
  simp [rowAt, val_replicate, Nat.mod_one, wd_replicate]
theorem mulAt_zero {x y i : Nat} {l : List Nat} (h : rowAt x y i l) : mulAt x y i 0 0 l := by
  obtain ⟨h1, h2⟩ := h
  exact ⟨by omega, by simp [h1, Nat.mod_one], h2⟩
theorem mul_small {a b c d : Nat} (ha : a < 4294967296) (hb : b < 4294967296) (hc : c < 4294967296) (hd : d < 4294967296) : a * b + c + d < 18446744073709551616 := by
  have h1 : a * b ≤ 4294967295 * 4294967295 := Nat.mul_le_mul (by omega) (by omega)
  omega
theorem mulAt_step {x y i k c : Nat} {l : List Nat} (h : mulAt x y i k c l) (hk : k < wl y) (hl : i + wl y ≤ l.length) (hlim : lim l) :
    mulAt x y i (k + 1) ((wd (wds x) i * wd (wds y) k + wd l (i + k) + c) / 4294967296) (l.set (i + k) ((wd (wds x) i * wd (wds y) k + wd l (i + k) + c) % 4294967296)) := by
  have h1 := wd_lt (lim_wds x) i
  have h2 := wd_lt (lim_wds y) k
  have h3 := wd_lt hlim (i + k)
  obtain ⟨hc, h, hz⟩ := h
  have h4 := mul_small h1 h2 h3 hc
  refine ⟨by omega, ?_, fun j hj => ?_⟩
  · have e2 := val_set l (i + k) ((wd (wds x) i * wd (wds y) k + wd l (i + k) + c) % 4294967296) (by omega)
    rw [mod_wd y k]
    generalize wd (wds x) i = dx at *
    generalize wd (wds y) k = dy at *
    generalize wd l (i + k) = o at *
    have e := Nat.div_add_mod (dx * dy + o + c) 4294967296
    generalize (dx * dy + o + c) / 4294967296 = q at *
    generalize (dx * dy + o + c) % 4294967296 = r at *
    generalize val (l.set (i + k) r) = V at *
    rw [← Nat.add_assoc, Nat.pow_succ, Nat.pow_add] at *
    generalize 4294967296 ^ k = P at *
    generalize 4294967296 ^ i = R at *
    generalize val l = W at *
    grind
  · rw [wd_set_ne _ (by omega)]; exact hz j hj
theorem mulAt_end {x y i c : Nat} {l : List Nat} (h : mulAt x y i (wl y) c l) (hl : i + wl y < l.length) : rowAt x y (i + 1) (l.set (i + wl y) c) := by
  obtain ⟨hc, h, hz⟩ := h
  refine ⟨?_, fun j hj => ?_⟩
  · have e2 := val_set l (i + wl y) c hl
    rw [hz _ (Nat.le_refl _)] at e2
    rw [mod_top (Nat.le_refl _)] at h
    rw [mod_wd]
    generalize val (l.set (i + wl y) c) = V at *
    generalize 4294967296 ^ (i + wl y) = P at *
    generalize 4294967296 ^ i = R at *
    generalize val l = W at *
    grind
  · rw [wd_set_ne _ (by omega)]; exact hz j (by omega)
theorem rowAt_end {x y i : Nat} {l : List Nat} (h : rowAt x y i l) (hx : wl x ≤ i) : val l = x * y := by
  rw [h.1, mod_top hx]
end Go.Proofs.YtcbkijeonilcjaaGreat
