/- Heights in floats, as words: what they are, and that they are finite (plain). -/
import Derived.Test.YtcbkijeonilcjaaGreatHC23
import Derived.Test.YtcbkijeonilcjaaGreatHC24
import Derived.Test.YtcbkijeonilcjaaGreatHC25
import Derived.Test.YtcbkijeonilcjaaGreatHC27
import Derived.Laws.Externs
namespace Go.Proofs.YtcbkijeonilcjaaGreat
open Ieee

def aW (x y : Nat) : Nat := (floatBits .add .f64 x y).getD 0
def sW (x y : Nat) : Nat := (floatBits .sub .f64 x y).getD 0
def mW (x y : Nat) : Nat := (floatBits .mul .f64 x y).getD 0
def abW (x : Nat) : Nat := x % 9223372036854775808
def flW (r : Rat) : Nat := (flo (rneg r) (rnum r) r.den).getD 0
/-- finite, not beyond a power of two -/
def Fn (b : Nat) (k : Int) : Prop := Nv b (fv b) ∧ Wi (fv b) (p2 k)
/-- and not below 0 -/
def Fp (b : Nat) (k : Int) : Prop := Num b false (fv b) ∧ fv b ≤ p2 k
theorem Nv.fv {b : Nat} {v : Rat} (h : Nv b v) : fv b = v := by
  obtain ⟨s, a, h, rfl⟩ := h
  exact h.fv
theorem Fn.of {b : Nat} {v : Rat} {k : Int} (h : Nv b v) (hw : Wi v (p2 k)) : Fn b k := by
  obtain rfl := h.fv
  exact ⟨h, hw⟩
theorem Fp.of {b : Nat} {v : Rat} {k : Int} (h : Num b false v) (hw : v ≤ p2 k) : Fp b k := by
  obtain rfl : Go.Proofs.YtcbkijeonilcjaaGreat.fv b = v := h.fv
  exact ⟨h, hw⟩
theorem Fn.mono {b : Nat} {j k : Int} (h : Fn b j) (hk : j ≤ k) : Fn b k := ⟨h.1, h.2.mono (p2_mono hk)⟩
theorem Fp.mono {b : Nat} {j k : Int} (h : Fp b j) (hk : j ≤ k) : Fp b k := ⟨h.1, Rat.le_trans h.2 (p2_mono hk)⟩
theorem Fp.nonneg {b : Nat} {k : Int} (h : Fp b k) : 0 ≤ fv b := h.1.nonneg
theorem Fp.fn {b : Nat} {k : Int} (h : Fp b k) : Fn b k := ⟨⟨false, _, h.1, rfl⟩, (wi_sgq (u := false) h.nonneg).2 h.2⟩
theorem fn_zero (k : Int) : Fn 0 k := Fn.of nv_zero ⟨by have := p2_pos k; grind, Rat.le_of_lt (p2_pos k)⟩
theorem fp_zero (k : Int) : Fp 0 k := Fp.of num_zero (Rat.le_of_lt (p2_pos k))
theorem fn_add {x y : Nat} {k : Int} (hx : Fn x k) (hy : Fn y k) (h0 : -1075 ≤ k) (hk : k ≤ 1022) :
    floatBits .add .f64 x y = some (aW x y) ∧ Fn (aW x y) (k + 1) ∧ Nr (fv x + fv y) (fv (aW x y)) := by
  have hw : Wi (fv x + fv y) (p2 (k + 1)) := by rw [p2_succ, show 2 * p2 k = p2 k + p2 k from by grind]; exact hx.2.add hy.2
  obtain ⟨r, c, h1, h2, h3, h4⟩ := nv_add hx.1 hy.1 (k + 1) (by omega) (by omega) hw
  have e : aW x y = r := by unfold aW; rw [h1]; rfl
  rw [e, h2.fv]
  exact ⟨h1, Fn.of h2 h3, h4⟩
theorem fn_sub {x y : Nat} {k : Int} (hx : Fn x k) (hy : Fn y k) (h0 : -1075 ≤ k) (hk : k ≤ 1022) :
    floatBits .sub .f64 x y = some (sW x y) ∧ Fn (sW x y) (k + 1) ∧ Nr (fv x - fv y) (fv (sW x y)) := by
  have hw : Wi (fv x - fv y) (p2 (k + 1)) := by rw [p2_succ, show 2 * p2 k = p2 k + p2 k from by grind]; exact hx.2.sub hy.2
  obtain ⟨r, c, h1, h2, h3, h4⟩ := nv_sub hx.1 hy.1 (k + 1) (by omega) (by omega) hw
  have e : sW x y = r := by unfold sW; rw [h1]; rfl
  rw [e, h2.fv]
  exact ⟨h1, Fn.of h2 h3, h4⟩
theorem fn_mul {x y : Nat} {j k : Int} (hx : Fn x j) (hy : Fn y k) (h0 : -1074 ≤ j + k) (hk : j + k ≤ 1023) :
    floatBits .mul .f64 x y = some (mW x y) ∧ Fn (mW x y) (j + k) ∧ Nr (fv x * fv y) (fv (mW x y)) := by
  have hw : Wi (fv x * fv y) (p2 (j + k)) := by rw [p2_add]; exact wi_mul hx.2 hy.2
  obtain ⟨r, c, h1, h2, h3, h4⟩ := nv_mul hx.1 hy.1 (j + k) h0 hk hw
  have e : mW x y = r := by unfold mW; rw [h1]; rfl
  rw [e, h2.fv]
  exact ⟨h1, Fn.of h2 h3, h4⟩
theorem fp_add {x y : Nat} {k : Int} (hx : Fp x k) (hy : Fp y k) (h0 : -1075 ≤ k) (hk : k ≤ 1022) :
    floatBits .add .f64 x y = some (aW x y) ∧ Fp (aW x y) (k + 1) ∧ Off (fv x + fv y) (fv (aW x y)) := by
  have hw : fv x + fv y ≤ p2 (k + 1) := by have := hx.2; have := hy.2; rw [p2_succ]; grind
  obtain ⟨r, c, h1, h2, h3, h4⟩ := np_add hx.1 hy.1 (k + 1) (by omega) (by omega) hw
  have e : aW x y = r := by unfold aW; rw [h1]; rfl
  have e2 : fv r = c := h2.fv
  rw [e, e2]
  exact ⟨h1, Fp.of h2 h3, h4⟩
theorem fp_mul {x y : Nat} {j k : Int} (hx : Fp x j) (hy : Fp y k) (h0 : -1074 ≤ j + k) (hk : j + k ≤ 1023) :
    floatBits .mul .f64 x y = some (mW x y) ∧ Fp (mW x y) (j + k) ∧ Off (fv x * fv y) (fv (mW x y)) := by
  have hw : fv x * fv y ≤ p2 (j + k) := by
    rw [p2_add]
    calc fv x * fv y ≤ p2 j * fv y := Rat.mul_le_mul_of_nonneg_right hx.2 hy.nonneg
      _ ≤ _ := Rat.mul_le_mul_of_nonneg_left hy.2 (Rat.le_of_lt (p2_pos j))
  obtain ⟨r, c, h1, h2, h3, h4⟩ := np_mul hx.1 hy.1 (j + k) h0 hk hw
  have e : mW x y = r := by unfold mW; rw [h1]; rfl
  have e2 : fv r = c := h2.fv
  rw [e, e2]
  exact ⟨h1, Fp.of h2 h3, h4⟩
theorem fp_abs {x : Nat} {k : Int} (h : Fn x k) : Fp (abW x) k ∧ ∃ s, fv x = sgq s (fv (abW x)) := by
  obtain ⟨_, s, a, h1, h2⟩ := h.1.abs
  have e : fv (abW x) = a := h1.fv
  have hw := h.2
  rw [h2, wi_sgq h1.nonneg] at hw
  exact ⟨Fp.of h1 hw, s, by rw [e]; exact h2⟩
theorem fn_lt {x : Nat} {k : Int} (h : Fn x k) : x < 18446744073709551616 := h.1.abs.1
theorem fn_flo {r : Rat} {k : Int} (h : Wi r (p2 k)) (hk0 : -1074 ≤ k) (hk : k ≤ 900) :
    flo (rneg r) (rnum r) r.den = some (flW r) ∧ Fn (flW r) k ∧ Nr r (fv (flW r)) ∧ (rnum r = 0 ∨ fexp (rnum r) r.den ≤ 900) := by
  obtain ⟨h0, F, c, h1, h2, h3, h4⟩ := flo_nv k hk0 hk h
  have e : flW r = F := by unfold flW; rw [h1]; rfl
  rw [e, h2.fv]
  exact ⟨h1, Fn.of h2 h3, h4, by omega⟩

/-- a constituent, a port, as numbers -/
structure Tn where
  far : Int
  near : Int
  re : Rat
  im : Rat
structure Pn where
  mean : Rat
  ts : List Tn
/-- 0, or from 2^-500 to 2^500 -/
def nrK (k : Nat) (r : Rat) : Bool := decide (rnum r = 0) || (decide (r.den ≤ rnum r * 2 ^ k) && decide (rnum r ≤ r.den * 2 ^ k))
def nrB (r : Rat) : Bool := nrK 500 r
def reW (a b c d : Nat) : Nat := sW (mW a c) (mW b d)
def imW (a b c d : Nat) : Nat := aW (mW a d) (mW b c)
def Tn.pw (T : Tn) (t : Nat) : Rat × Rat := cpw (rotZ T.far T.near) t
def Tn.pr (T : Tn) (t : Nat) : Nat := reW (flW T.re) (flW T.im) (flW (T.pw t).1) (flW (T.pw t).2)
def Tn.pi (T : Tn) (t : Nat) : Nat := imW (flW T.re) (flW T.im) (flW (T.pw t).1) (flW (T.pw t).2)
def hgt (m : Nat) (ts : List Tn) (t : Nat) : Nat := ts.foldl (fun h T => aW h (T.pr t)) m
def smI (ts : List Tn) (t : Nat) : Nat := ts.foldl (fun h T => aW h (T.pi t)) 0
def szW (ts : List Tn) : Nat := ts.foldl (fun s T => aW (aW s (abW (flW T.re))) (abW (flW T.im))) 0
def cntW (n : Nat) : Nat := double.nearest false (n + 4) 0
def Pn.tot (P : Pn) : Nat := aW (szW P.ts) (abW (flW P.mean))
def Pn.bd0 (P : Pn) : Nat := mW (mW P.tot (cntW P.ts.length)) 4382002437431492608
def Pn.bnd (P : Pn) : Nat := P.bd0 + 1
def Tn.ok (T : Tn) : Prop := rotOk T.far T.near ∧ (fits T.re ∧ fits T.im) ∧ Wi T.re (p2 500) ∧ Wi T.im (p2 500)
def Pn.ok (P : Pn) : Prop := fits P.mean ∧ Wi P.mean (p2 500) ∧ P.ts.length ≤ 24 ∧ ∀ T ∈ P.ts, T.ok

theorem nrK_size {k : Nat} {r : Rat} (h : nrK k r = true) : ∃ q, 0 ≤ q ∧ r = sgq (rneg r) q ∧ q ≤ p2 k ∧ (r = 0 ∨ p2 (-(k : Int)) ≤ q) := by
  obtain ⟨q, hq0, hrq, hqd⟩ := rat_size r
  have hyr : (0 : Rat) < (r.den : Rat) := Rat.natCast_pos.2 r.den_pos
  unfold nrK at h
  simp only [Bool.or_eq_true, Bool.and_eq_true, decide_eq_true_eq] at h
  refine ⟨q, hq0, hrq, ?_, ?_⟩
  · refine le_of_mul_den hyr ?_
    rw [hqd]
    rcases h with h | ⟨_, h⟩
    · rw [h, show ((0 : Nat) : Rat) = 0 from rfl]
      exact Rat.mul_nonneg (Rat.le_of_lt (p2_pos _)) (Rat.le_of_lt hyr)
    · have := Rat.natCast_le_natCast.2 h
      rw [Rat.natCast_mul, ← p2_nat, Rat.mul_comm] at this
      exact this
  · rcases h with h | ⟨h, _⟩
    · exact .inl (rnum_eq_zero.1 h)
    · right
      refine le_of_mul_den hyr ?_
      rw [hqd]
      have := Rat.natCast_le_natCast.2 h
      rw [Rat.natCast_mul, ← p2_nat] at this
      have h2 := Rat.mul_le_mul_of_nonneg_left this (Rat.le_of_lt (p2_pos (-(k : Int))))
      have e : p2 (-(k : Int)) * p2 k = 1 := by rw [← p2_add, show -(k : Int) + k = 0 from by omega, p2_zero]
      have e2 : p2 (-(k : Int)) * ((rnum r : Rat) * p2 k) = (rnum r : Rat) := by
        rw [Rat.mul_comm (rnum r : Rat), ← Rat.mul_assoc, e, Rat.one_mul]
      rw [e2] at h2
      exact h2
theorem nrB_wi {r : Rat} (h : nrB r = true) : Wi r (p2 500) := by
  obtain ⟨q, hq0, hrq, h1, _⟩ := nrK_size h
  rw [hrq, wi_sgq hq0]
  exact h1
/-- all numbers are near -/
def Pn.near (P : Pn) : Bool := nrB P.mean && P.ts.all (fun T => nrB T.re && nrB T.im)

/-! powers are on the circle -/
theorem rot_circle {f n : Int} (h : 0 < rotD f n) : (rotZ f n).1 * (rotZ f n).1 + (rotZ f n).2 * (rotZ f n).2 = 1 := by
  have hD : ((rotD f n : Nat) : Rat) ≠ 0 := by
    have : (0 : Rat) < ((rotD f n : Nat) : Rat) := Rat.natCast_pos.2 h
    grind
  have e1 : (rotZ f n).1 * ((rotD f n : Nat) : Rat) = ((f * f - n * n : Int) : Rat) := (mkRat_mul_den _ h)
  have e2 : (rotZ f n).2 * ((rotD f n : Nat) : Rat) = ((2 * f * n : Int) : Rat) := (mkRat_mul_den _ h)
  have e3 : ((rotD f n : Nat) : Rat) = ((f * f + n * n : Int) : Rat) := by
    have : ((rotD f n : Nat) : Int) = f * f + n * n := by
      unfold rotD
      have hsq : ∀ z : Int, 0 ≤ z * z := fun z => by
        rcases Int.le_total 0 z with h | h
        · exact Int.mul_nonneg h h
        · have := Int.mul_nonneg (show 0 ≤ -z by omega) (show 0 ≤ -z by omega); grind
      have h1 := hsq f
      have h2 := hsq n
      omega
    rw [← this, Rat.intCast_natCast]
  generalize ((rotD f n : Nat) : Rat) = D at *
  generalize (rotZ f n).1 = a at *
  generalize (rotZ f n).2 = b at *
  simp only [Rat.intCast_add, Rat.intCast_sub, Rat.intCast_mul] at e1 e2 e3
  rw [show ((2 : Int) : Rat) = 2 from rfl] at e2
  have e4 : (a * a + b * b) * (D * D) = 1 * (D * D) := by
    have : (a * D) * (a * D) + (b * D) * (b * D) = D * D := by rw [e1, e2, e3]; grind
    grind
  have hDD : D * D ≠ 0 := fun h => by rcases Rat.mul_eq_zero.1 h with h | h <;> exact hD h
  have e5 : (a * a + b * b - 1) * (D * D) = 0 := by grind
  rcases Rat.mul_eq_zero.1 e5 with h | h
  · grind
  · exact absurd h hDD
theorem cpw_circle {z : Rat × Rat} (h : z.1 * z.1 + z.2 * z.2 = 1) (k : Nat) : (cpw z k).1 * (cpw z k).1 + (cpw z k).2 * (cpw z k).2 = 1 := by
  induction k with
  | zero => show (1 : Rat) * 1 + 0 * 0 = 1; grind
  | succ k ih =>
    show ((cpw z k).1 * z.1 - (cpw z k).2 * z.2) * ((cpw z k).1 * z.1 - (cpw z k).2 * z.2) + ((cpw z k).1 * z.2 + (cpw z k).2 * z.1) * ((cpw z k).1 * z.2 + (cpw z k).2 * z.1) = 1
    generalize (cpw z k).1 = a at *
    generalize (cpw z k).2 = b at *
    generalize z.1 = c at *
    generalize z.2 = d at *
    have : (a * a + b * b) * (c * c + d * d) = 1 := by rw [h, ih]; grind
    grind
theorem sq_le_one {a b : Rat} (h : a * a + b * b = 1) : Wi a 1 := by
  obtain ⟨s, c, hc, rfl⟩ := wi_of a
  rw [wi_sgq hc]
  obtain ⟨t, d, hd, rfl⟩ := wi_of b
  have e : c * c + d * d = 1 := by unfold sgq at h; cases s <;> cases t <;> simp at h <;> grind
  have h2 : 0 ≤ d * d := Rat.mul_nonneg hd hd
  by_cases k : c ≤ 1
  · exact k
  · exfalso
    have h3 : 1 < c := Rat.not_le.1 k
    have h4 : c * 1 ≤ c * c := Rat.mul_le_mul_of_nonneg_left (Rat.le_of_lt h3) hc
    grind
theorem Tn.ok.pw {T : Tn} (h : T.ok) (t : Nat) : Wi (T.pw t).1 (p2 0) ∧ Wi (T.pw t).2 (p2 0) := by
  obtain ⟨⟨a1, a2, a3, a4, _⟩, _⟩ := h
  have hc := cpw_circle (rot_circle (rotD_bd a1 a2 a3 a4).1) t
  rw [p2_zero]
  exact ⟨sq_le_one hc, sq_le_one (by rw [← hc]; exact Rat.add_comm _ _)⟩
/-- the parts of a product: each step is finite -/
structure PrOk (T : Tn) (t : Nat) : Prop where
  m1 : floatBits .mul .f64 (flW T.re) (flW (T.pw t).1) = some (mW (flW T.re) (flW (T.pw t).1))
  m2 : floatBits .mul .f64 (flW T.im) (flW (T.pw t).2) = some (mW (flW T.im) (flW (T.pw t).2))
  m3 : floatBits .mul .f64 (flW T.re) (flW (T.pw t).2) = some (mW (flW T.re) (flW (T.pw t).2))
  m4 : floatBits .mul .f64 (flW T.im) (flW (T.pw t).1) = some (mW (flW T.im) (flW (T.pw t).1))
  re : floatBits .sub .f64 (mW (flW T.re) (flW (T.pw t).1)) (mW (flW T.im) (flW (T.pw t).2)) = some (T.pr t)
  im : floatBits .add .f64 (mW (flW T.re) (flW (T.pw t).2)) (mW (flW T.im) (flW (T.pw t).1)) = some (T.pi t)
  fr : Fn (T.pr t) 501
  fi : Fn (T.pi t) 501
theorem Tn.ok.fl {T : Tn} (h : T.ok) : Fn (flW T.re) 500 ∧ Fn (flW T.im) 500 := ⟨(fn_flo h.2.2.1 (by decide) (by decide)).2.1, (fn_flo h.2.2.2 (by decide) (by decide)).2.1⟩
theorem Tn.ok.pr {T : Tn} (h : T.ok) (t : Nat) : PrOk T t := by
  obtain ⟨u1, u2⟩ := h.pw t
  obtain ⟨f1, f2⟩ := h.fl
  have f3 := (fn_flo u1 (by decide) (by decide)).2.1
  have f4 := (fn_flo u2 (by decide) (by decide)).2.1
  obtain ⟨a1, a2, _⟩ := fn_mul f1 f3 (by decide) (by decide)
  obtain ⟨b1, b2, _⟩ := fn_mul f2 f4 (by decide) (by decide)
  obtain ⟨c1, c2, _⟩ := fn_mul f1 f4 (by decide) (by decide)
  obtain ⟨d1, d2, _⟩ := fn_mul f2 f3 (by decide) (by decide)
  obtain ⟨e1, e2, _⟩ := fn_sub a2 b2 (by decide) (by decide)
  obtain ⟨g1, g2, _⟩ := fn_add c2 d2 (by decide) (by decide)
  exact ⟨a1, b1, c1, d1, e1, g1, e2, g2⟩
theorem foldl_take {α β : Type} (f : β → α → β) (b : β) (l : List α) (i : Nat) (h : i < l.length) : (l.take (i + 1)).foldl f b = f ((l.take i).foldl f b) l[i] := by
  rw [List.take_succ_eq_append_getElem h, List.foldl_append]; rfl
theorem hgt_fn {m : Nat} {ts : List Tn} (t : Nat) (hm : Fn m 500) (h : ∀ T ∈ ts, T.ok) (i : Nat) (hi : i ≤ ts.length) (hn : ts.length ≤ 400) : Fn (hgt m (ts.take i) t) (501 + i) := by
  induction i with
  | zero => exact hm.mono (by decide)
  | succ i ih =>
    have := ih (by omega)
    have hil : i < ts.length := by omega
    unfold hgt at *
    rw [foldl_take _ _ _ _ hil]
    have h2 := ((h _ (List.getElem_mem hil)).pr t).fr
    exact (fn_add this (h2.mono (by omega)) (by omega) (by omega)).2.1.mono (by omega)
theorem hgt_step {m : Nat} {ts : List Tn} (t : Nat) (hm : Fn m 500) (h : ∀ T ∈ ts, T.ok) (i : Nat) (hi : i < ts.length) (hn : ts.length ≤ 400) :
    floatBits .add .f64 (hgt m (ts.take i) t) (ts[i].pr t) = some (hgt m (ts.take (i + 1)) t) := by
  have h1 := hgt_fn t hm h i (by omega) hn
  have h2 := ((h _ (List.getElem_mem hi)).pr t).fr
  have e : hgt m (ts.take (i + 1)) t = aW (hgt m (ts.take i) t) (ts[i].pr t) := by unfold hgt; rw [foldl_take _ _ _ _ hi]
  rw [e]
  exact (fn_add h1 (h2.mono (by omega)) (by omega) (by omega)).1
theorem smI_fn {ts : List Tn} (t : Nat) (h : ∀ T ∈ ts, T.ok) (i : Nat) (hi : i ≤ ts.length) (hn : ts.length ≤ 400) : Fn (smI (ts.take i) t) (501 + i) := by
  induction i with
  | zero => exact fn_zero _
  | succ i ih =>
    have := ih (by omega)
    have hil : i < ts.length := by omega
    unfold smI at *
    rw [foldl_take _ _ _ _ hil]
    have h2 := ((h _ (List.getElem_mem hil)).pr t).fi
    exact (fn_add this (h2.mono (by omega)) (by omega) (by omega)).2.1.mono (by omega)
theorem smI_step {ts : List Tn} (t : Nat) (h : ∀ T ∈ ts, T.ok) (i : Nat) (hi : i < ts.length) (hn : ts.length ≤ 400) :
    floatBits .add .f64 (smI (ts.take i) t) (ts[i].pi t) = some (smI (ts.take (i + 1)) t) := by
  have h1 := smI_fn t h i (by omega) hn
  have h2 := ((h _ (List.getElem_mem hi)).pr t).fi
  have e : smI (ts.take (i + 1)) t = aW (smI (ts.take i) t) (ts[i].pi t) := by unfold smI; rw [foldl_take _ _ _ _ hi]
  rw [e]
  exact (fn_add h1 (h2.mono (by omega)) (by omega) (by omega)).1
def szM (ts : List Tn) (i : Nat) (T : Tn) : Nat := aW (szW (ts.take i)) (abW (flW T.re))
theorem szW_fp {ts : List Tn} (h : ∀ T ∈ ts, T.ok) (i : Nat) (hi : i ≤ ts.length) (hn : ts.length ≤ 200) : Fp (szW (ts.take i)) (500 + 2 * i) := by
  induction i with
  | zero => exact fp_zero _
  | succ i ih =>
    have := ih (by omega)
    have hil : i < ts.length := by omega
    unfold szW at *
    rw [foldl_take _ _ _ _ hil]
    obtain ⟨f1, f2⟩ := (h _ (List.getElem_mem hil)).fl
    have g1 := (fp_add this ((fp_abs f1).1.mono (by omega)) (by omega) (by omega)).2.1
    exact (fp_add g1 ((fp_abs f2).1.mono (by omega)) (by omega) (by omega)).2.1.mono (by omega)
theorem szW_step {ts : List Tn} (h : ∀ T ∈ ts, T.ok) (i : Nat) (hi : i < ts.length) (hn : ts.length ≤ 200) :
    floatBits .add .f64 (szW (ts.take i)) (abW (flW ts[i].re)) = some (szM ts i ts[i]) ∧ floatBits .add .f64 (szM ts i ts[i]) (abW (flW ts[i].im)) = some (szW (ts.take (i + 1))) := by
  have h1 := szW_fp h i (by omega) hn
  obtain ⟨f1, f2⟩ := (h _ (List.getElem_mem hi)).fl
  have g1 := fp_add h1 ((fp_abs f1).1.mono (by omega)) (by omega) (by omega)
  have g2 := fp_add g1.2.1 ((fp_abs f2).1.mono (by omega)) (by omega) (by omega)
  have e : szW (ts.take (i + 1)) = aW (szM ts i ts[i]) (abW (flW ts[i].im)) := by unfold szW szM; rw [foldl_take _ _ _ _ hi]; rfl
  rw [e]
  exact ⟨g1.1, g2.1⟩
theorem cnt_num {n : Nat} (hn : n ≤ 24) : Num (cntW n) false ((n + 4 : Nat) : Rat) ∧ ((n + 4 : Nat) : Rat) ≤ p2 5 := by
  have e : ((n + 4 : Nat) : Rat) * p2 0 = ((n + 4 : Nat) : Rat) := by rw [p2_zero, Rat.mul_one]
  have h5 : ((n + 4 : Nat) : Rat) ≤ p2 5 := by
    rw [show p2 5 = ((32 : Nat) : Rat) from by decide +kernel]
    exact Rat.natCast_le_natCast.2 (by omega)
  have := exact_num false (m := n + 4) 0 5 (by omega) (by omega) (by decide) (by decide) (by decide) (by rw [e]; exact h5)
  rw [e] at this
  exact ⟨this, h5⟩
theorem tiny_num : Num 4382002437431492608 false (p2 (-50)) := by
  have h := num_pow (x := -50) (by decide) (by decide)
  rw [show (-50 + 1023 : Int).toNat * 4503599627370496 = 4382002437431492608 from by decide] at h
  exact h
/-- the bound: each step -/
structure BdOk (P : Pn) : Prop where
  tot : floatBits .add .f64 (szW P.ts) (abW (flW P.mean)) = some P.tot
  cnt : floatBits .mul .f64 P.tot (cntW P.ts.length) = some (mW P.tot (cntW P.ts.length))
  bd0 : floatBits .mul .f64 (mW P.tot (cntW P.ts.length)) 4382002437431492608 = some P.bd0
  fp : Fp P.bd0 1000
theorem Pn.ok.bd {P : Pn} (h : P.ok) : BdOk P := by
  obtain ⟨_, h2, h3, h4⟩ := h
  have f0 := szW_fp h4 P.ts.length (Nat.le_refl _) (by omega)
  rw [List.take_length] at f0
  have f1 := (fp_abs (fn_flo h2 (by decide) (by decide)).2.1).1
  obtain ⟨a1, a2, _⟩ := fp_add f0 (f1.mono (by omega)) (by omega) (by omega)
  have f2 : Fp (cntW P.ts.length) 5 := Fp.of (cnt_num h3).1 (cnt_num h3).2
  obtain ⟨b1, b2, _⟩ := fp_mul a2 f2 (by omega) (by omega)
  have f3 : Fp 4382002437431492608 (-50) := Fp.of tiny_num Rat.le_refl
  obtain ⟨c1, c2, _⟩ := fp_mul b2 f3 (by omega) (by omega)
  exact ⟨a1, b1, c1, c2.mono (by omega)⟩
theorem Pn.ok.bnd {P : Pn} (h : P.ok) : ∃ a', Num P.bnd false a' ∧ fv P.bd0 < a' := (num_next h.bd.fp.1 h.bd.fp.2).2.2
end Go.Proofs.YtcbkijeonilcjaaGreat

/- A port that may be, as numbers: read off what it was handed in as. -/
namespace Go.Proofs.YtcbkijeonilcjaaGreat
open Go.RowKit

/-- raw lists that say a fraction -/
def RdN (g : Bool) (l l' : List Nat) (r : Rat) : Prop := fits r ∧ g = rneg r ∧ l = wds (rnum r) ∧ l' = wds r.den
def TdN (T : Td) (N : Tn) : Prop := (T.far = N.far ∧ T.near = N.near ∧ rotOk N.far N.near) ∧ RdN T.g1 T.l1 T.l1' N.re ∧ RdN T.g2 T.l2 T.l2' N.im
def PdN (p : Pd) (P : Pn) : Prop := RdN p.g p.l p.l' P.mean ∧ p.ts.length ≤ 24 ∧ P.ts.length = p.ts.length ∧ ∀ j (h : j < p.ts.length) (h' : j < P.ts.length), TdN p.ts[j] P.ts[j]
def TdL (T : Td) : Prop := (lim T.l1 ∧ lim T.l1') ∧ (lim T.l2 ∧ lim T.l2')
def PdL (p : Pd) : Prop := (lim p.l ∧ lim p.l') ∧ ∀ T ∈ p.ts, TdL T
theorem RdN.of {g : Bool} {l l' : List Nat} (hl : lim l) (hl' : lim l') (h : chkR g l l' = 0) : ∃ r, RdN g l l' r := by
  obtain ⟨r, h1, h2, h3, h4, _⟩ := chkR_ok hl hl' h
  exact ⟨r, h1, h2, h3, h4⟩
theorem chk2_both {a b : Int} (h : chk2 a b = 0) : a = 0 ∧ b = 0 := by
  unfold chk2 at h
  split at h
  · exact ⟨by assumption, h⟩
  · exact absurd h (by assumption)
theorem TdN.of {T : Td} (hl : TdL T) (h : T.err = 0) : ∃ N, TdN T N := by
  unfold Td.err tideE at h
  split at h
  · obtain ⟨h1, h2⟩ := chk2_both h
    obtain ⟨h3, h4⟩ := chk2_both h2
    obtain ⟨r, hr⟩ := RdN.of hl.1.1 hl.1.2 h3
    obtain ⟨s, hs⟩ := RdN.of hl.2.1 hl.2.2 h4
    have hrot : rotOk T.far T.near := by
      unfold rotE at h1
      split at h1
      · assumption
      · omega
    exact ⟨⟨T.far, T.near, r, s⟩, ⟨rfl, rfl, hrot⟩, hr, hs⟩
  · omega
theorem tidesG_zero {ts : List Td} (k i : Nat) (hk : i + k = ts.length) (h : (tidesG ts i k).1 = 0) (j : Nat) (hj : i ≤ j) (hj2 : j < ts.length) : ts[j].err = 0 := by
  induction k generalizing i with
  | zero => omega
  | succ k ih =>
    unfold tidesG at h
    rw [List.getElem?_eq_getElem (by omega)] at h
    simp only at h
    by_cases he : ts[i].err = 0
    · rw [if_pos he] at h
      by_cases c : thereB (ts.take i) ts[i].nm ts[i].far ts[i].near = true
      · rw [if_pos c] at h; cases h
      · rw [if_neg c] at h
        by_cases e : i = j
        · subst e; exact he
        · exact ih (i + 1) (by omega) h (by omega)
    · rw [if_neg he] at h
      exact absurd h he
theorem list_choose {α β : Type} (R : α → β → Prop) (l : List α) (h : ∀ x ∈ l, ∃ y, R x y) : ∃ m : List β, m.length = l.length ∧ ∀ j (h : j < l.length) (h' : j < m.length), R l[j] m[j] := by
  induction l with
  | nil => exact ⟨[], rfl, fun j h => absurd h (by simp)⟩
  | cons x l ih =>
    obtain ⟨m, h1, h2⟩ := ih fun y hy => h y (List.mem_cons_of_mem _ hy)
    obtain ⟨y, hy⟩ := h x List.mem_cons_self
    refine ⟨y :: m, by simp [h1], fun j h h' => ?_⟩
    cases j with
    | zero => exact hy
    | succ j => exact h2 j (by simpa using h) (by simpa using h')
theorem PdN.of {p : Pd} (hl : PdL p) (h : p.fault.1 = 0) : ∃ P, PdN p P := by
  unfold Pd.fault at h
  split at h
  · split at h
    · split at h
      · rename_i h1 h2 h3
        obtain ⟨r, hr⟩ := RdN.of hl.1.1 hl.1.2 h2
        have he := tidesG_zero p.ts.length 0 (by omega) h
        obtain ⟨m, h4, h5⟩ := list_choose TdN p.ts (fun T hT => by
          obtain ⟨j, hj, rfl⟩ := List.getElem_of_mem hT
          exact TdN.of (hl.2 _ hT) (he j (by omega) hj))
        exact ⟨⟨r, m⟩, hr, h3, h4, h5⟩
      · cases h
    · rename_i h1 h2
      exact absurd h h2
  · cases h
theorem PdN.ok {p : Pd} {P : Pn} (h : PdN p P) (hn : P.near = true) : P.ok := by
  obtain ⟨h1, h2, h3, h4⟩ := h
  unfold Pn.near at hn
  simp only [Bool.and_eq_true, List.all_eq_true] at hn
  refine ⟨h1.1, nrB_wi hn.1, by omega, fun T hT => ?_⟩
  obtain ⟨q1, q2⟩ := hn.2 T hT
  obtain ⟨j, hj, rfl⟩ := List.getElem_of_mem hT
  obtain ⟨a, b, c⟩ := h4 j (by omega) hj
  exact ⟨a.2.2, ⟨b.1, c.1⟩, nrB_wi q1, nrB_wi q2⟩

/-! in memory -/
/-- a constituent that may be, in nine cells -/
def TnC (w : World) (b o : Nat) (N : Tn) : Prop := ∃ nm A1 c1 A1' c1' A2 c2 A2' c2',
  (w.cell? ⟨b, o, none⟩ = some (.string nm) ∧ w.cell? ⟨b, o + 1, none⟩ = some (.int .i32 N.far) ∧ w.cell? ⟨b, o + 2, none⟩ = some (.int .i32 N.near) ∧ w.cell? ⟨b, o + 3, none⟩ = some (.bool (rneg N.re)) ∧ w.cell? ⟨b, o + 4, none⟩ = some (.slice A1 (wl (rnum N.re)) c1) ∧ w.cell? ⟨b, o + 5, none⟩ = some (.slice A1' (wl N.re.den) c1') ∧ w.cell? ⟨b, o + 6, none⟩ = some (.bool (rneg N.im)) ∧ w.cell? ⟨b, o + 7, none⟩ = some (.slice A2 (wl (rnum N.im)) c2) ∧ w.cell? ⟨b, o + 8, none⟩ = some (.slice A2' (wl N.im.den) c2')) ∧
  (Rd w A1 (wl (rnum N.re)) c1 (wds (rnum N.re)) ∧ Rd w A1' (wl N.re.den) c1' (wds N.re.den)) ∧ (Rd w A2 (wl (rnum N.im)) c2 (wds (rnum N.im)) ∧ Rd w A2' (wl N.im.den) c2' (wds N.im.den))
structure TnS (w : World) (A : Option Addr) (n c : Nat) (ts : List Tn) : Prop where
  len : ts.length = n
  cap : n ≤ c
  big : n ≤ 24 ∧ c ≤ maxLen
  cell : 0 < n → ∃ b o, A = some ⟨b, o, none⟩ ∧ ∀ j (h : j < ts.length), TnC w b (o + j * 9) ts[j]
def PnR (w : World) (v : Value) (P : Pn) : Prop := ∃ nm A c A' c' B k d, v = .agg #[.string nm, .bool (rneg P.mean), .slice A (wl (rnum P.mean)) c, .slice A' (wl P.mean.den) c', .slice B k d] ∧ Rd w A (wl (rnum P.mean)) c (wds (rnum P.mean)) ∧ Rd w A' (wl P.mean.den) c' (wds P.mean.den) ∧ TnS w B k d P.ts
theorem TnC.below {w w1 : World} {b o : Nat} {N : Tn} (h : TnC w b o N) (hb : Below w.heap.size w w1) : TnC w1 b o N := by
  obtain ⟨nm, A1, c1, A1', c1', A2, c2, A2', c2', ⟨h0, h1, h2, h3, h4, h5, h6, h7, h8⟩, ⟨r1, r2⟩, r3, r4⟩ := h
  have k : ∀ {a v}, w.cell? a = some v → w1.cell? a = some v := fun {a v} e => by rw [hb.cell (World.block_lt_of_cell? w _ e)]; exact e
  exact ⟨nm, A1, c1, A1', c1', A2, c2, A2', c2', ⟨k h0, k h1, k h2, k h3, k h4, k h5, k h6, k h7, k h8⟩, ⟨r1.below hb, r2.below hb⟩, r3.below hb, r4.below hb⟩
theorem TnS.below {w w1 : World} {A : Option Addr} {n c : Nat} {ts : List Tn} (h : TnS w A n c ts) (hb : Below w.heap.size w w1) : TnS w1 A n c ts :=
  ⟨h.len, h.cap, h.big, fun hn => by
    obtain ⟨b, o, e, hc⟩ := h.cell hn
    exact ⟨b, o, e, fun j hj => (hc j hj).below hb⟩⟩
theorem PnR.below {w w1 : World} {v : Value} {P : Pn} (h : PnR w v P) (hb : Below w.heap.size w w1) : PnR w1 v P := by
  obtain ⟨nm, A, c, A', c', B, k, d, e, h1, h2, h3⟩ := h
  exact ⟨nm, A, c, A', c', B, k, d, e, h1.below hb, h2.below hb, h3.below hb⟩
theorem TdC.num {w : World} {b o : Nat} {T : Td} {N : Tn} (h : TdC w b o T) (hN : TdN T N) : TnC w b o N := by
  obtain ⟨A1, n1, c1, A1', n1', c1', A2, n2, c2, A2', n2', c2', ⟨h0, h1, h2, h3, h4, h5, h6, h7, h8⟩, hb0, r1, r2, r3, r4⟩ := h
  obtain ⟨⟨e1, e2, _⟩, ⟨_, e3, e4, e5⟩, ⟨_, e6, e7, e8⟩⟩ := hN
  rw [e1] at h1
  rw [e2] at h2
  rw [e3] at h3
  rw [e6] at h6
  rw [e4] at r1
  rw [e5] at r2
  rw [e7] at r3
  rw [e8] at r4
  obtain rfl : n1 = wl (rnum N.re) := r1.len.symm
  obtain rfl : n1' = wl N.re.den := r2.len.symm
  obtain rfl : n2 = wl (rnum N.im) := r3.len.symm
  obtain rfl : n2' = wl N.im.den := r4.len.symm
  exact ⟨_, A1, c1, A1', c1', A2, c2, A2', c2', ⟨h0, h1, h2, h3, h4, h5, h6, h7, h8⟩, ⟨r1, r2⟩, r3, r4⟩
theorem PdR.num {w : World} {v : Value} {p : Pd} {P : Pn} (h : PdR w v p) (hN : PdN p P) : PnR w v P := by
  obtain ⟨_, A, n, c, A', n', c', B, k, d, rfl, h1, h2, h3⟩ := h
  obtain ⟨⟨_, e1, e2, e3⟩, hk, hlen, ht⟩ := hN
  rw [e2] at h1
  rw [e3] at h2
  rw [e1]
  obtain rfl : n = wl (rnum P.mean) := h1.len.symm
  obtain rfl : n' = wl P.mean.den := h2.len.symm
  have hl3 := h3.len
  refine ⟨p.nm, A, c, A', c', B, k, d, rfl, h1, h2, by omega, h3.cap, ⟨by omega, h3.big.2⟩, fun hk0 => ?_⟩
  obtain ⟨b, o, e, hc⟩ := h3.cell hk0
  exact ⟨b, o, e, fun j hj => (hc j (by omega)).num (ht j (by omega) hj)⟩
theorem PdR.lim {w : World} {v : Value} {p : Pd} (h : PdR w v p) : PdL p := by
  obtain ⟨_, A, n, c, A', n', c', B, k, d, rfl, h1, h2, h3⟩ := h
  refine ⟨⟨h1.lim, h2.lim⟩, fun T hT => ?_⟩
  obtain ⟨j, hj, rfl⟩ := List.getElem_of_mem hT
  obtain ⟨b, o, e, hc⟩ := h3.cell (by have := h3.len; omega)
  obtain ⟨A1, n1, c1, A1', n1', c1', A2, n2, c2, A2', n2', c2', _, hb0, r1, r2, r3, r4⟩ := hc j hj
  exact ⟨⟨r1.lim, r2.lim⟩, r3.lim, r4.lim⟩
end Go.Proofs.YtcbkijeonilcjaaGreat

/- Floats of Go's library: walks. -/
namespace Go.Proofs.YtcbkijeonilcjaaGreat
open Go.RowKit

theorem run_bits (x : Nat) (w : World) : (callFunc 140 #[.float .f64 x]).run Tryz.prog w = .ok (.value (.int .u64 x)) w := by
  rw [run_callFunc_extern (e := Extern.MathFloatBits.float64bits) Tryz.func140 (by kernel_rfl) (by kernel_rfl) (by kernel_rfl) (by kernel_rfl)]
  rfl
theorem run_frombits (n : Int) (w : World) : (callFunc 139 #[.int .u64 n]).run Tryz.prog w = .ok (.value (.float .f64 n.toNat)) w := by
  rw [run_callFunc_extern (e := Extern.MathFloatBits.float64frombits) Tryz.func139 (by kernel_rfl) (by kernel_rfl) (by kernel_rfl) (by kernel_rfl)]
  rfl
attribute [local go_sem] run_bits run_frombits
theorem andNot_sign {x : Nat} (hx : x < 18446744073709551616) : bits .andNot .u64 (x : Int) 9223372036854775808 = ((x % 9223372036854775808 : Nat) : Int) := by
  have h := u64_andNot_nat x 9223372036854775808 hx (by decide)
  rw [show (18446744073709551615 - 9223372036854775808 : Nat) = 2 ^ 63 - 1 from by decide, Nat.and_two_pow_sub_one_eq_mod] at h
  exact h
set_option maxRecDepth 100000 in
theorem math_Abs (x : Nat) (w : World) (hx : x < 18446744073709551616) :
    Calls Tryz.prog 113 #[.float .f64 x] w fun e w' => e = .returned (.float .f64 (x % 9223372036854775808)) ∧ w' = w := by
  have e1 := andNot_sign hx
  go_enter Tryz.func113, Tryz.ntmps113
  go_wp2
  go_ret
  refine ⟨ret_val ?_, rfl⟩
  congr 1
theorem math_IsNaN (x : Nat) (w : World) :
    Calls Tryz.prog 136 #[.float .f64 x] w fun e w' => e = .returned (.bool (FloatKind.f64.format.order x x != some Ordering.eq)) ∧ w' = w := by
  go_enter Tryz.func136, Tryz.ntmps136
  go_wp2
  go_ret
  exact ⟨rfl, rfl⟩
set_option maxRecDepth 100000 in
theorem math_IsInf {x : Nat} {s : Bool} {a : Rat} (h : Num x s a) (w : World) :
    Calls Tryz.prog 146 #[.float .f64 x, .int .i64 0] w fun e w' => e = .returned (.bool false) ∧ w' = w := by
  have ho := order_greatest h
  have hb := h.1
  have HO := Lib.hid ho
  clear ho h
  go_enter Tryz.func146, Tryz.ntmps146
  go_wp2_with (go_at_call 113; refine (math_Abs _ _ hb).mono ?_; rintro e w' ⟨rfl, rfl⟩)
  go_ret
  exact ⟨ret_bool HO.out, rfl⟩
theorem math_IsNaN_num {x : Nat} {s : Bool} {a : Rat} (h : Num x s a) (w : World) :
    Calls Tryz.prog 136 #[.float .f64 x] w fun e w' => e = .returned (.bool false) ∧ w' = w := by
  refine (math_IsNaN x w).mono ?_
  rintro e w' ⟨rfl, rfl⟩
  exact ⟨ret_bool (by show (Ieee.double.order x x != some Ordering.eq) = false; rw [order_self h]; rfl), rfl⟩
end Go.Proofs.YtcbkijeonilcjaaGreat
