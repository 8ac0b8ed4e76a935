/- The reference of layer 1: common divisors, quotients, shifts, with their errors. -/
import Derived.Test.YtcbkijeonilcjaaGreatHC5
import Derived.Test.YtcbkijeonilcjaaGreatHC7
import Derived.Test.YtcbkijeonilcjaaGreatHC10
namespace Go.Proofs.YtcbkijeonilcjaaGreat
open Go.RowKit

set_option maxHeartbeats 1000000 in
theorem ref01_Common (A A' : Option Addr) (c c' x y : Nat) (w : World) (h : Rd w A (wl x) c (wds x)) (h' : Rd w A' (wl y) c' (wds y)) (hx : wl x ≤ 70000) (hy : wl y ≤ 70000) :
    Calls Tryz.prog 284 #[.slice A (wl x) c, .slice A' (wl y) c'] w fun e w' => ∃ v, e = .returned v ∧ Own 116 w' w.heap.size v (wds (Nat.gcd x y)) ∧ Below w.heap.size w w' := by
  go_enter Tryz.func284, Tryz.ntmps284
  go_wp2
  go_loopg [0, 1] y (fun k xv yv wr => ∃ a B d B' d', xv = .slice B (wl a) d ∧ yv = .slice B' (wl k) d' ∧ Rd wr B (wl a) d (wds a) ∧ Rd wr B' (wl k) d' (wds k) ∧ (Nat.gcd a k = Nat.gcd x y ∧ wl a ≤ 70000 ∧ wl k ≤ 70000) ∧ Below w.heap.size w wr)
  case atStart => exact ⟨x, _, _, _, _, rfl, rfl, h, h', ⟨rfl, hx, hy⟩, Below.refl _ _⟩
  case round =>
    obtain ⟨a, B, d, B', d', rfl, rfl, hRa, hRb, ⟨hg1, hg2, hg3⟩, hB⟩ := hrel
    have HG := Lib.hid hg1
    clear hg1
    by_cases hlt : 0 < wl gk
    · have hgk : 0 < gk := wl_pos_iff.1 hlt
      have hlt2 := Nat.mod_lt a hgk
      have HS : Hid (Nat.gcd gk (a % gk) = Nat.gcd x y ∧ wl (a % gk) ≤ 70000 ∧ a % gk < gk) := by
        refine ⟨?_, Nat.le_trans (wl_mono (Nat.le_of_lt hlt2)) hg3, hlt2⟩
        rw [← HG.out, Nat.gcd_comm gk, ← Nat.gcd_rec, Nat.gcd_comm]
      clear hlt2
      go_wp2_with fail
      refine (ref01_Over B B' d d' a gk _ hRa hRb hg2 hgk).mono ?_
      rintro e w4 ⟨q, r, rfl, hq, hr, hB4⟩
      obtain ⟨Ar', cr', rfl, hRr⟩ := hr.wl0
      go_wp2
      go_roundg (a % gk)
      case measure => exact HS.out.2.2
      case rel => exact ⟨gk, _, _, _, _, rfl, rfl, hRb.below hB4, hRr, ⟨HS.out.1, hg3, HS.out.2.1⟩, hB.trans (hB4.mono hB.size)⟩
    · have hz : gk = 0 := wl_eq_zero.1 (by omega)
      have HE : Hid (Nat.gcd x y = a) := by show Nat.gcd x y = a; rw [← HG.out, hz, Nat.gcd_zero_right]
      have hz0 : wl gk = 0 := by omega
      have e1 : ((0 : Int) < (wl gk : Int)) = False := by simp; omega
      clear hz hz0
      go_wp2_with fail
      refine (ref01_Trim B _ d _ _ hRa).mono ?_
      rintro e w4 ⟨v, rfl, hO, hB4⟩
      rw [val_wds] at hO
      go_wp2
      go_ret
      exact ⟨_, rfl, by rw [HE.out]; exact hO.mono hB.size, hB.trans (hB4.mono hB.size)⟩

theorem ref01_Gcd (A A' : Option Addr) (c c' x y : Nat) (w : World) (h : Rd w A (wl x) c (wds x)) (h' : Rd w A' (wl y) c' (wds y)) (hx : wl x ≤ 8192) (hy : wl y ≤ 8192) (h0 : 0 < y) :
    Calls Tryz.prog 217 #[.slice A (wl x) c, .slice A' (wl y) c'] w fun e w' => ∃ v, e = .returned (.tuple #[v, .int .i64 0]) ∧ Own 116 w' w.heap.size v (wds (Nat.gcd x y)) ∧ Below w.heap.size w w' := by
  have hgl : wl (Nat.gcd x y) ≤ 8192 := Nat.le_trans (wl_mono (Nat.le_of_dvd h0 (Nat.gcd_dvd_right x y))) hy
  go_enter Tryz.func217, Tryz.ntmps217
  go_wp2_with fail
  refine (ref01_both A A' _ _ c c' _ _ _ h h').mono ?_
  rintro e w1 ⟨rfl, n1, rfl⟩
  rw [chkN_wds hx, chkN_wds hy, if_pos rfl]
  go_wp2_with fail
  refine (ref01_Common A A' c c' x y _ (h.drewN _) (h'.drewN _) (by omega) (by omega)).mono ?_
  rintro e w2 ⟨v, rfl, hO, hB⟩
  obtain ⟨Ag, cg, hv, hR⟩ := hO.wl0
  subst hv
  go_wp2_with fail
  refine (ref01_told Ag _ cg _ hgl).mono ?_
  rintro e w3 ⟨rfl, rfl⟩
  go_wp2
  go_ret2
  exact ⟨_, rfl, hO, (below_drewN (Below.refl _ _) _).trans hB⟩

theorem ref01_DivMod (A A' : Option Addr) (c c' x y : Nat) (w : World) (h : Rd w A (wl x) c (wds x)) (h' : Rd w A' (wl y) c' (wds y)) (hx : wl x ≤ 8192) (hy : wl y ≤ 8192) (h0 : 0 < y) :
    Calls Tryz.prog 319 #[.slice A (wl x) c, .slice A' (wl y) c'] w fun e w' => ∃ q r, e = .returned (.tuple #[q, r, .int .i64 0]) ∧ Own 116 w' w.heap.size q (wds (x / y)) ∧ Own 116 w' w.heap.size r (wds (x % y)) ∧ Below w.heap.size w w' := by
  have hyp := wl_pos_iff.2 h0
  have e1 : ((wl y : Int) == 0) = false := by simp; omega
  go_enter Tryz.func319, Tryz.ntmps319
  go_wp2_with fail
  refine (ref01_both A A' _ _ c c' _ _ _ h h').mono ?_
  rintro e w1 ⟨rfl, n1, rfl⟩
  rw [chkN_wds hx, chkN_wds hy, if_pos rfl]
  go_wp2_with fail
  refine (ref01_Over A A' c c' x y _ (h.drewN _) (h'.drewN _) (by omega) h0).mono ?_
  rintro e w2 ⟨q, r, rfl, hq, hr, hB⟩
  go_wp2
  go_ret3
  exact ⟨_, _, rfl, hq, hr, (below_drewN (Below.refl _ _) _).trans hB⟩

set_option maxRecDepth 100000 in
theorem ref01_Shift (A : Option Addr) (c x n : Nat) (w : World) (h : Rd w A (wl x) c (wds x)) (hx : wl x ≤ 8192) (hn : n ≤ 262144) (hr : blen x + n ≤ 262144) :
    Calls Tryz.prog 337 #[.slice A (wl x) c, .int .i64 n] w fun e w' => ∃ v, e = .returned (.tuple #[v, .int .i64 0]) ∧ Own 116 w' w.heap.size v (wds (x * 2 ^ n)) ∧ Below w.heap.size w w' := by
  have key : ∀ k, blen x + n ≤ 32 * k → wl (x * 2 ^ n) ≤ k := fun k hk => by
    rw [wl_le, show (4294967296 : Nat) = 2 ^ 32 from rfl, ← Nat.pow_mul]
    have h1 := blen_lt x
    have h2 : x * 2 ^ n < 2 ^ blen x * 2 ^ n := Nat.mul_lt_mul_of_pos_right h1 (Nat.two_pow_pos _)
    rw [← Nat.pow_add] at h2
    exact Nat.lt_of_lt_of_le h2 (Nat.pow_le_pow_right (by omega) hk)
  have hwl : wl (x * 2 ^ n) ≤ 8192 := key 8192 (by omega)
  have e0 : ((n : Int) < -262144) = False := by simp only [eq_iff_iff, iff_false]; omega
  have e1 : ((262144 : Int) < (n : Int)) = False := by simp; omega
  by_cases h0 : 0 < wl x
  · have e2 : ((0 : Int) < (wl x : Int)) = True := by simp; omega
    have e3 : ((262144 : Int) < (blen x : Int) + (n : Int)) = False := by simp only [eq_iff_iff, iff_false]; omega
    have hb : blen x ≤ 262144 := by omega
    go_enter Tryz.func337, Tryz.ntmps337
    go_wp2_with fail
    refine (ref01_Check A _ c _ _ h).mono ?_
    rintro e w1 ⟨rfl, n1, rfl⟩
    rw [chkN_wds hx]
    go_wp2_with fail
    refine (ref01_Bits A _ c _ _ (h.drewN _)).mono ?_
    rintro e w2 ⟨rfl, hB2⟩
    rw [val_wds]
    have h2 := (h.drewN n1).below hB2
    have HB2 := Lib.hid ((below_drewN (Below.refl w.heap.size w) n1).trans hB2)
    clear hB2
    go_wp2_with fail
    refine (ref01_Up A c x n _ h2 (by omega) (by omega)).mono ?_
    rintro e w3 ⟨v, rfl, hO, hB⟩
    obtain ⟨Ag, cg, hv, hR⟩ := hO.wl0
    subst hv
    go_wp2_with fail
    refine (ref01_told Ag _ cg _ hwl).mono ?_
    rintro e w4 ⟨rfl, rfl⟩
    go_wp2
    go_ret2
    exact ⟨_, rfl, hO.mono HB2.out.size, HB2.out.trans (hB.mono HB2.out.size)⟩
  · have e2 : ((0 : Int) < (wl x : Int)) = False := by simp; omega
    go_enter Tryz.func337, Tryz.ntmps337
    go_wp2_with fail
    refine (ref01_Check A _ c _ _ h).mono ?_
    rintro e w1 ⟨rfl, n1, rfl⟩
    rw [chkN_wds hx]
    go_wp2_with fail
    refine (ref01_Up A c x n _ (h.drewN _) (by omega) (by omega)).mono ?_
    rintro e w3 ⟨v, rfl, hO, hB⟩
    obtain ⟨Ag, cg, hv, hR⟩ := hO.wl0
    subst hv
    go_wp2_with fail
    refine (ref01_told Ag _ cg _ hwl).mono ?_
    rintro e w4 ⟨rfl, rfl⟩
    go_wp2
    go_ret2
    exact ⟨_, rfl, hO, (below_drewN (Below.refl _ _) _).trans hB⟩
end Go.Proofs.YtcbkijeonilcjaaGreat

/- The reference of layer 3: trimmed lists. -/
namespace Go.Proofs.YtcbkijeonilcjaaGreat
open Go.RowKit

theorem ref03_trimmed (A : Option Addr) (n c : Nat) (l : List Nat) (w : World) (h : Rd w A n c l) :
    Calls Tryz.prog 216 #[.slice A n c] w fun e w' => e = .returned (.bool (nfB l)) ∧ Drn w w' := by
  have hl := h.len
  subst hl
  have hb := h.big.1
  have hnc := h.cap
  by_cases h2 : 0 < l.length
  · obtain ⟨b, o, rfl, hc⟩ := h.cell h2
    have d1 := hc (l.length - 1) (by omega)
    have l1 := wd_lt h.lim (l.length - 1)
    have e0 : ((l.length : Int) == 0) = false := by simp; intro e; rw [e] at h2; simp at h2
    clear hc
    by_cases h3 : wd l (l.length - 1) = 0
    · have hz : (((wd l (l.length - 1) : Nat) : Int) != 0) = false := by rw [h3]; rfl
      have hn : Hid (nfB l = false) := by show nfB l = false; unfold nfB; rw [h3]; simp; intro e; rw [e] at h2; simp at h2
      clear h3
      go_enter Tryz.func216, Tryz.ntmps216
      go_wp2
      go_ret
      exact ⟨by rw [hn.out]; rfl, (by first | exact ⟨_, rfl⟩ | exact (drn1 _ _).step _ | exact ((drn1 _ _).step _).step _ | (repeat' (first | exact Drn.refl _ | apply Drn.step)))⟩
    · have hz : (((wd l (l.length - 1) : Nat) : Int) != 0) = true := by simp; omega
      have hn : Hid (nfB l = true) := by show nfB l = true; unfold nfB; simp [h3]
      clear h3
      go_enter Tryz.func216, Tryz.ntmps216
      go_wp2
      go_ret
      exact ⟨by rw [hn.out]; rfl, (by first | exact ⟨_, rfl⟩ | exact (drn1 _ _).step _ | exact ((drn1 _ _).step _).step _ | (repeat' (first | exact Drn.refl _ | apply Drn.step)))⟩
  · have hn : Hid (nfB l = true) := by show nfB l = true; unfold nfB; rw [show l.length = 0 from by omega]; rfl
    have e0 : ((l.length : Int) == 0) = true := by simp; exact List.eq_nil_of_length_eq_zero (by omega)
    go_enter Tryz.func216, Tryz.ntmps216
    go_wp2
    go_ret
    exact ⟨by rw [hn.out]; rfl, (by first | exact ⟨_, rfl⟩ | exact (drn1 _ _).step _ | exact ((drn1 _ _).step _).step _ | (repeat' (first | exact Drn.refl _ | apply Drn.step)))⟩
end Go.Proofs.YtcbkijeonilcjaaGreat

/- Package ratio: comparing, sums, products. -/
namespace Go.Proofs.YtcbkijeonilcjaaGreat
open Go.RowKit

theorem ratio_times (A A' : Option Addr) (c c' x y : Nat) (w : World) (h : Rd w A (wl x) c (wds x)) (h' : Rd w A' (wl y) c' (wds y)) (hx : wl x ≤ 4096) (hy : wl y ≤ 4096) :
    Calls Tryz.prog 70 #[.slice A (wl x) c, .slice A' (wl y) c'] w fun e w' => ∃ v, e = .returned v ∧ Own 116 w' w.heap.size v (wds (x * y)) ∧ Below w.heap.size w w' := by
  go_enter Tryz.func70, Tryz.ntmps70
  go_wp2_with fail
  refine (nat_Mul A A' c c' x y _ h h' (by omega) (by omega) (by omega)).mono ?_
  rintro e w1 ⟨v, rfl, hO, hB⟩
  go_wp2
  go_ret
  exact ⟨v, rfl, hO, hB⟩

/-- two errors, the first one first -/
def chk2 (a b : Int) : Int := if a = 0 then b else a
theorem ratio_checks (g g2 : Bool) (A A' A2 A2' : Option Addr) (n n' c c' n2 n2' c2 c2' : Nat) (l l' l2 l2' : List Nat) (w : World) (h : Rd w A n c l) (h' : Rd w A' n' c' l') (h2 : Rd w A2 n2 c2 l2) (h2' : Rd w A2' n2' c2' l2') :
    Calls Tryz.prog 69 #[.agg #[.bool g, .slice A n c, .slice A' n' c'], .agg #[.bool g2, .slice A2 n2 c2, .slice A2' n2' c2']] w fun e w' => e = .returned (.int .i64 (chk2 (chkR g l l') (chkR g2 l2 l2'))) ∧ Below w.heap.size w w' := by
  have hb : Below w.heap.size w ((w.alloc (.cells #[.bool g, .slice A n c, .slice A' n' c'] 24)).alloc (.cells #[.bool g2, .slice A2 n2 c2, .slice A2' n2' c2'] 24)) := ((Below.refl _ _).alloc (Nat.le_refl _) _).alloc (by simp) _
  have HB := Lib.hid hb
  have Hh := h.below hb
  have Hh' := h'.below hb
  have Hh2 := h2.below hb
  have Hh2' := h2'.below hb
  clear h h' h2 h2' hb
  go_enter Tryz.func69, Tryz.ntmps69
  go_wp2_with fail
  refine (ratio_Check g A A' _ _ c c' l l' _ Hh Hh').mono ?_
  rintro e w1 ⟨rfl, hB1⟩
  have HB1 := Lib.hid (HB.out.trans (hB1.mono HB.out.size))
  by_cases h0 : chkR g l l' = 0
  · rw [h0]
    have HE : Hid (chk2 (chkR g l l') (chkR g2 l2 l2') = chkR g2 l2 l2') := by show chk2 _ _ = _; unfold chk2; rw [if_pos h0]
    clear h0
    have c0 : w1.heap[w.heap.size + 1]? = some (.cells #[.bool g2, .slice A2 n2 c2, .slice A2' n2' c2'] 24) := by
      rw [hB1.block _ (by simp)]
      have := heap_alloc_new (w.alloc (.cells #[.bool g, .slice A n c, .slice A' n' c'] 24)) (.cells #[.bool g2, .slice A2 n2 c2, .slice A2' n2' c2'] 24)
      simpa using this
    obtain ⟨c0, c1, c2', _, _, _⟩ := cell3 c0
    go_wp2_with fail
    refine (ratio_Check g2 A2 A2' _ _ c2 _ l2 l2' _ (Hh2.below hB1) (Hh2'.below hB1)).mono ?_
    rintro e w2 ⟨rfl, hB2⟩
    go_wp2
    go_ret
    exact ⟨ret_int HE.out.symm, HB1.out.trans (hB2.mono HB1.out.size)⟩
  · have HE : Hid (chk2 (chkR g l l') (chkR g2 l2 l2') = chkR g l l') := by show chk2 _ _ = _; unfold chk2; rw [if_neg h0]
    have e1 : (chkR g l l' != 0) = true := by simp [h0]
    clear h0
    go_wp2_with fail
    go_ret
    exact ⟨ret_int HE.out.symm, HB1.out⟩

theorem chkR_rat {r : Rat} (h : fits r) : chkR (rneg r) (wds (rnum r)) (wds r.den) = 0 := by
  unfold chkR
  have h1 : (wds (rnum r)).length = wl (rnum r) := rfl
  have h2 : (wds r.den).length = wl r.den := rfl
  have h3 : 0 < wl r.den := wl_pos_iff.2 r.den_pos
  have n1 := (nfB_iff (lim_wds (rnum r))).2 (nf_wds _)
  have n2 := (nfB_iff (lim_wds r.den)).2 (nf_wds _)
  rw [h1, h2, if_neg (by have := h.1; have := h.2; omega), if_neg (by rw [n1, n2]; simp; omega), if_neg]
  · unfold cop; rw [val_wds, val_wds, if_pos (rcop r)]
  · rintro ⟨e1, e2⟩
    rw [rnum_zero (wl_eq_zero.1 e1)] at e2
    cases e2
theorem chkR_ok {g : Bool} {l l' : List Nat} (hl : lim l) (hl' : lim l') (h : chkR g l l' = 0) : ∃ r : Rat, fits r ∧ g = rneg r ∧ l = wds (rnum r) ∧ l' = wds r.den ∧ r = frac g (val l) (val l') := by
  unfold chkR at h
  split at h
  · cases h
  rename_i h1
  split at h
  · cases h
  rename_i h2
  split at h
  · cases h
  rename_i h3
  have n1 : nf l := (nfB_iff hl).1 (by cases e : nfB l; exact absurd (.inl e) h2; rfl)
  have n2 : nf l' := (nfB_iff hl').1 (by cases e : nfB l'; exact absurd (.inr (.inl e)) h2; rfl)
  have h4 : 0 < val l' := by
    rcases Nat.eq_zero_or_pos (val l') with h5 | h5
    · have := wds_val n2
      rw [h5, wds_zero] at this
      exact absurd (.inr (.inr (by rw [← this]; rfl))) h2
    · exact h5
  have hc : Nat.gcd (val l) (val l') = 1 := by
    unfold cop at h; split at h
    · assumption
    · cases h
  obtain ⟨r1, r2, r3⟩ := frac_of (g := g) h4 hc (fun e => by
    have := wds_val n1
    rw [e, wds_zero] at this
    cases g
    · rfl
    · exact absurd ⟨by rw [← this]; rfl, rfl⟩ h3)
  refine ⟨frac g (val l) (val l'), ⟨?_, ?_⟩, r3.symm, by rw [r1, wds_val n1], by rw [r2, wds_val n2], rfl⟩
  · rw [r1, wl, wds_val n1]; omega
  · rw [r2, wl, wds_val n2]; omega
theorem fits_fits {a b : Rat} (ha : fits a) (hb : fits b) : chk2 (chkR (rneg a) (wds (rnum a)) (wds a.den)) (chkR (rneg b) (wds (rnum b)) (wds b.den)) = 0 := by
  rw [chkR_rat ha, chkR_rat hb]; rfl

/-- the boxes of two fractions that came in -/
theorem boxes {w W : World} {g g2 : Bool} {a b c d : Value} {T : TypeId} (hb : Below ((w.alloc (.cells #[.bool g, a, b] T)).alloc (.cells #[.bool g2, c, d] T)).heap.size ((w.alloc (.cells #[.bool g, a, b] T)).alloc (.cells #[.bool g2, c, d] T)) W) :
    W.cell? ⟨w.heap.size, 0, none⟩ = some (.bool g) ∧ W.cell? ⟨w.heap.size, 1, none⟩ = some a ∧ W.cell? ⟨w.heap.size, 2, none⟩ = some b ∧ W.cell? ⟨w.heap.size + 1, 0, none⟩ = some (.bool g2) ∧ W.cell? ⟨w.heap.size + 1, 1, none⟩ = some c ∧ W.cell? ⟨w.heap.size + 1, 2, none⟩ = some d := by
  have c0 : W.heap[w.heap.size]? = some (.cells #[.bool g, a, b] T) := by
    rw [hb.block _ (by simp; omega), Below.heap_alloc _ _ _ (by simp)]
    exact heap_alloc_new w _
  have c1 : W.heap[w.heap.size + 1]? = some (.cells #[.bool g2, c, d] T) := by
    rw [hb.block _ (by simp)]
    have := heap_alloc_new (w.alloc (.cells #[.bool g, a, b] T)) (.cells #[.bool g2, c, d] T)
    simpa using this
  obtain ⟨x0, x1, x2, _, _, _⟩ := cell3 c0
  obtain ⟨y0, y1, y2, _, _, _⟩ := cell3 c1
  exact ⟨x0, x1, x2, y0, y1, y2⟩

set_option maxRecDepth 100000 in
set_option maxHeartbeats 200000 in
theorem ratio_Compare_ok (a b : Rat) (A A' B B' : Option Addr) (c c' d d' : Nat) (w : World) (h : Rd w A (wl (rnum a)) c (wds (rnum a))) (h' : Rd w A' (wl a.den) c' (wds a.den)) (k : Rd w B (wl (rnum b)) d (wds (rnum b))) (k' : Rd w B' (wl b.den) d' (wds b.den)) (ha : fits a) (hb : fits b) :
    Calls Tryz.prog 23 #[.agg #[.bool (rneg a), .slice A (wl (rnum a)) c, .slice A' (wl a.den) c'], .agg #[.bool (rneg b), .slice B (wl (rnum b)) d, .slice B' (wl b.den) d']] w fun e w' => e = .returned (.tuple #[.int .i64 (rcmp a b), .int .i64 0]) ∧ Below w.heap.size w w' := by
  have HC := Lib.hid (fits_fits ha hb)
  obtain ⟨f1, f2⟩ := ha
  obtain ⟨f3, f4⟩ := hb
  generalize hna : rneg a = na at *
  generalize hnb : rneg b = nb at *
  have hb0 : Below w.heap.size w ((w.alloc (.cells #[.bool na, .slice A (wl (rnum a)) c, .slice A' (wl a.den) c'] 24)).alloc (.cells #[.bool nb, .slice B (wl (rnum b)) d, .slice B' (wl b.den) d'] 24)) := ((Below.refl _ _).alloc (Nat.le_refl _) _).alloc (by simp) _
  have KB := fun W => @boxes w W na nb (.slice A (wl (rnum a)) c) (.slice A' (wl a.den) c') (.slice B (wl (rnum b)) d) (.slice B' (wl b.den) d') 24
  have HNA := Lib.hid hna
  have HNB := Lib.hid hnb
  clear hna hnb
  have H1 := h.below hb0
  have H2 := h'.below hb0
  have K1 := k.below hb0
  have K2 := k'.below hb0
  have HB0 := Lib.hid hb0
  clear h h' k k' hb0
  go_enter Tryz.func23, Tryz.ntmps23
  go_wp2_with fail
  refine (ratio_checks na nb A A' B B' _ _ _ _ _ _ _ _ _ _ _ _ _ H1 H2 K1 K2).mono ?_
  rintro e w1 ⟨rfl, hB1⟩
  rw [HC.out]
  have KW := KB w1 hB1
  obtain ⟨c0, c1, c2, d0, d1, d2⟩ := KW
  generalize hW0 : ((w.alloc (.cells #[.bool na, .slice A (wl (rnum a)) c, .slice A' (wl a.den) c'] 24)).alloc (.cells #[.bool nb, .slice B (wl (rnum b)) d, .slice B' (wl b.den) d'] 24)) = W0 at *
  have HW0 := Lib.hid hW0
  have HKB := Lib.hid KB
  clear hW0 KB
  have hBs : Below W0.heap.size W0 w1.drew := below_drewN hB1 1
  go_wp2_with fail
  go_region_held3 (fun w' => w'.cell? ⟨w.heap.size, 1, none⟩ = some (.slice A (wl (rnum a)) c) ∧ w'.cell? ⟨w.heap.size, 2, none⟩ = some (.slice A' (wl a.den) c') ∧ w'.cell? ⟨w.heap.size + 1, 1, none⟩ = some (.slice B (wl (rnum b)) d) ∧ w'.cell? ⟨w.heap.size + 1, 2, none⟩ = some (.slice B' (wl b.den) d'))
    (first
      | (have hk := HKB.out _ hBs; exact ⟨hk.2.1, hk.2.2.1, hk.2.2.2.2.1, hk.2.2.2.2.2⟩)
      | (have hk := HKB.out _ hBc2; exact ⟨hk.2.1, hk.2.2.1, hk.2.2.2.2.1, hk.2.2.2.2.2⟩)
      | (have hk := HKB.out _ hBc3; exact ⟨hk.2.1, hk.2.2.1, hk.2.2.2.2.1, hk.2.2.2.2.2⟩))
    (first
      | (go_at_call 70; with_reducible refine (ratio_times A B' c d' (rnum a) b.den _ (H1.below hBs) (K2.below hBs) (by omega) (by omega)).mono ?_; rintro e w2 ⟨v2, rfl, hO2, hB2⟩; have hBc2 := hBs.trans (hB2.mono hBs.size))
      | (go_at_call 70; with_reducible refine (ratio_times B A' d c' (rnum b) a.den _ (K1.below hBc2) (H2.below hBc2) (by omega) (by omega)).mono ?_; rintro e w3 ⟨v3, rfl, hO3, hB3⟩; have hBc3 := hBc2.trans (hB3.mono hBc2.size)))
  obtain ⟨X, cx, rfl, hX⟩ := (hO2.below hB3).wl0
  obtain ⟨Y, cy, rfl, hY⟩ := hO3.wl0
  obtain ⟨x0, _, _, y0, _, _⟩ := HKB.out _ hBc3
  have HBF := Lib.hid (show Below w.heap.size w w3 from HB0.out.trans (hBc3.mono HB0.out.size))
  clear c0 c1 c2 d0 d1 d2 hO2 hO3 hB2 hB3 hBc2 hBc3
  cases na <;> cases nb
  · go_wp2_with fail
    refine (nat_Compare X Y _ cx _ cy _ _ _ _ _ hX hY (val_wds _) (val_wds _)).mono ?_
    rintro e w4 ⟨rfl, n4, rfl⟩
    go_wp2
    go_ret2
    exact ⟨by rw [rcmp_nn HNA.out HNB.out]; rfl, below_drewN HBF.out _⟩
  · go_wp2_with fail
    go_ret2
    exact ⟨by rw [rcmp_np HNA.out HNB.out]; rfl, HBF.out⟩
  · go_wp2_with fail
    go_ret2
    exact ⟨by rw [rcmp_pn HNA.out HNB.out]; rfl, HBF.out⟩
  · go_wp2_with fail
    refine (nat_Compare Y X _ cy _ cx _ _ _ _ _ hY hX (val_wds _) (val_wds _)).mono ?_
    rintro e w4 ⟨rfl, n4, rfl⟩
    go_wp2
    go_ret2
    exact ⟨by rw [rcmp_pp HNA.out HNB.out]; rfl, below_drewN HBF.out _⟩

theorem chk2_ok {a b : Int} (h : chk2 a b = 0) : a = 0 ∧ b = 0 := by
  unfold chk2 at h; split at h
  · exact ⟨by assumption, h⟩
  · exact absurd h (by assumption)

/-- comparing, where one may not be -/
theorem ratio_Compare_no (g g2 : Bool) (A A' A2 A2' : Option Addr) (n n' c c' n2 n2' c2 c2' : Nat) (l l' l2 l2' : List Nat) (w : World) (h : Rd w A n c l) (h' : Rd w A' n' c' l') (h2 : Rd w A2 n2 c2 l2) (h2' : Rd w A2' n2' c2' l2') (hk : chk2 (chkR g l l') (chkR g2 l2 l2') ≠ 0) :
    Calls Tryz.prog 23 #[.agg #[.bool g, .slice A n c, .slice A' n' c'], .agg #[.bool g2, .slice A2 n2 c2, .slice A2' n2' c2']] w fun e w' => e = .returned (.tuple #[.int .i64 0, .int .i64 (chk2 (chkR g l l') (chkR g2 l2 l2'))]) ∧ Below w.heap.size w w' := by
  have hb0 : Below w.heap.size w ((w.alloc (.cells #[.bool g, .slice A n c, .slice A' n' c'] 24)).alloc (.cells #[.bool g2, .slice A2 n2 c2, .slice A2' n2' c2'] 24)) := ((Below.refl _ _).alloc (Nat.le_refl _) _).alloc (by simp) _
  have HB := Lib.hid hb0
  have H1 := h.below hb0
  have H2 := h'.below hb0
  have K1 := h2.below hb0
  have K2 := h2'.below hb0
  have HK := Lib.hid hk
  clear h h' h2 h2' hb0 hk
  go_enter Tryz.func23, Tryz.ntmps23
  go_wp2_with fail
  refine (ratio_checks g g2 A A' A2 A2' _ _ _ _ _ _ _ _ _ _ _ _ _ H1 H2 K1 K2).mono ?_
  rintro e w1 ⟨rfl, hB1⟩
  have HB1 := Lib.hid (HB.out.trans (hB1.mono HB.out.size))
  have e1 : (chk2 (chkR g l l') (chkR g2 l2 l2') != 0) = true := by simp [HK.out]
  clear hB1
  go_wp2_with fail
  go_ret2
  exact ⟨rfl, HB1.out⟩

theorem Ar.setc {T : TypeId} {w : World} {b o n c : Nat} {l : List Nat} (h : Ar T w b o n c l) {a : Addr} {u : Value} (ha : a.block ≠ b) : Ar T (w.setCell a u) b o n c l := h.other a u (Ne.symm ha)
/-- a struct of three cells is stored -/
def set3 (w : World) (b : Nat) (x y z : Value) : World := ((w.setCell ⟨b, 0, none⟩ x).setCell ⟨b, 1, none⟩ y).setCell ⟨b, 2, none⟩ z
theorem set3_size (w : World) (b : Nat) (x y z : Value) : (set3 w b x y z).heap.size = w.heap.size := by simp [set3]
theorem below_set3 {B b : Nat} {a w : World} (h : Below B a w) (hb : B ≤ b) (x y z : Value) : Below B a (set3 w b x y z) := ((h.setCell hb _).setCell hb _).setCell hb _
theorem OwnR.set3 {T : TypeId} {w : World} {lo hi b : Nat} {v x y z : Value} {l : List Nat} (h : OwnR T w lo hi v l) (hb : b < lo) : OwnR T (set3 w b x y z) lo hi v l := ((h.setc hb).setc hb).setc hb
theorem RtO.set3 {T : TypeId} {w : World} {lo hi b : Nat} {v x y z : Value} {r : Rat} (h : RtO T w lo hi v r) (hb : b < lo) : RtO T (set3 w b x y z) lo hi v r := by
  obtain ⟨vn, vd, m, rfl, h1, h2, h3, h4⟩ := h
  exact ⟨vn, vd, m, rfl, h1, h2, h3.set3 hb, h4.set3 (by omega)⟩
theorem RtA.set3 {T : TypeId} {w : World} {lo b : Nat} {v x y z : Value} {k : Int} {q : Rat} (h : RtA T w lo v k q) (hb : b < lo) : RtA T (set3 w b x y z) lo v k q := by
  rcases h with ⟨h1, h2, h3⟩ | h
  · exact .inl ⟨h1, h2, by rw [set3_size]; exact h3.set3 hb⟩
  · exact .inr h
theorem RtA.mono {T : TypeId} {w : World} {lo lo' : Nat} {v : Value} {k : Int} {q : Rat} (h : RtA T w lo v k q) (hl : lo' ≤ lo) : RtA T w lo' v k q := by
  rcases h with ⟨h1, h2, h3⟩ | h
  · exact .inl ⟨h1, h2, h3.mono hl (Nat.le_refl _)⟩
  · exact .inr h
theorem RtO.agg {T : TypeId} {w : World} {lo hi : Nat} {v : Value} {r : Rat} (h : RtO T w lo hi v r) : ∃ b A n c A' n' c', v = .agg #[.bool b, .slice A n c, .slice A' n' c'] := by
  obtain ⟨A, c, A', c', rfl, _⟩ := h.rd
  exact ⟨_, _, _, _, _, _, _, rfl⟩
theorem RtA.agg {T : TypeId} {w : World} {lo : Nat} {v : Value} {k : Int} {q : Rat} (h : RtA T w lo v k q) : ∃ b A n c A' n' c', v = .agg #[.bool b, .slice A n c, .slice A' n' c'] := by
  rcases h with ⟨h1, h2, h3⟩ | ⟨_, _, rfl⟩
  · exact h3.agg
  · exact ⟨_, _, _, _, _, _, _, rfl⟩

/-- the boxes of two fractions that came in, and the one that goes out -/
theorem boxes3 {w W : World} {g g2 : Bool} {a b c d : Value} {T : TypeId} (hb : Below (((w.alloc (.cells #[.bool g, a, b] T)).alloc (.cells #[.bool g2, c, d] T)).alloc (.cells #[.bool false, .slice none 0 0, .slice none 0 0] T)).heap.size (((w.alloc (.cells #[.bool g, a, b] T)).alloc (.cells #[.bool g2, c, d] T)).alloc (.cells #[.bool false, .slice none 0 0, .slice none 0 0] T)) W) :
    (W.cell? ⟨w.heap.size, 0, none⟩ = some (.bool g) ∧ W.cell? ⟨w.heap.size, 1, none⟩ = some a ∧ W.cell? ⟨w.heap.size, 2, none⟩ = some b ∧ W.cell? ⟨w.heap.size + 1, 0, none⟩ = some (.bool g2) ∧ W.cell? ⟨w.heap.size + 1, 1, none⟩ = some c ∧ W.cell? ⟨w.heap.size + 1, 2, none⟩ = some d) ∧
    (W.cell? ⟨w.heap.size + 1 + 1, 0, none⟩ = some (.bool false) ∧ W.cell? ⟨w.heap.size + 1 + 1, 1, none⟩ = some (.slice none 0 0) ∧ W.cell? ⟨w.heap.size + 1 + 1, 2, none⟩ = some (.slice none 0 0) ∧ W.frozen? ⟨w.heap.size + 1 + 1, 0, none⟩ = false ∧ W.frozen? ⟨w.heap.size + 1 + 1, 1, none⟩ = false ∧ W.frozen? ⟨w.heap.size + 1 + 1, 2, none⟩ = false) := by
  have h1 := boxes (hb.mono (by simp) |> fun h => ((Below.refl _ ((w.alloc (.cells #[.bool g, a, b] T)).alloc (.cells #[.bool g2, c, d] T))).alloc (Nat.le_refl _) (.cells #[.bool false, .slice none 0 0, .slice none 0 0] T)).trans h)
  have c1 : W.heap[w.heap.size + 1 + 1]? = some (.cells #[.bool false, .slice none 0 0, .slice none 0 0] T) := by
    rw [hb.block _ (by simp)]
    have := heap_alloc_new ((w.alloc (.cells #[.bool g, a, b] T)).alloc (.cells #[.bool g2, c, d] T)) (.cells #[.bool false, .slice none 0 0, .slice none 0 0] T)
    simpa using this
  exact ⟨h1, cell3 c1⟩
end Go.Proofs.YtcbkijeonilcjaaGreat
