/- Package height: bounds, reached, near. -/
import Derived.Test.YtcbkijeonilcjaaGreatHC7
import Derived.Test.YtcbkijeonilcjaaGreatHC21
import Derived.Test.YtcbkijeonilcjaaGreatHC28
import Derived.Test.YtcbkijeonilcjaaGreatHC30
namespace Go.Proofs.YtcbkijeonilcjaaGreat
open Go.RowKit

def hiL : List Nat := (List.replicate 16 0).set 15 1048576
def hiN : Nat := val hiL
theorem hiN_pow : hiN = 2 ^ 500 := by decide +kernel
theorem hi_wds : wds hiN = hiL := wds_val ((nfB_iff (by intro x hx; simp [hiL, List.replicate] at hx; omega)).1 (by decide +kernel))
theorem hi_wl : wl hiN = 16 := by rw [wl, hi_wds]; rfl
theorem one_wds : wds 1 = [1] := by decide +kernel
theorem one_wl : wl 1 = 1 := by rw [wl, one_wds]; rfl
theorem hi_pos : 0 < hiN := by decide +kernel
/-- 2^500 and 2^-500, as they lie -/
def hiR : Rat := frac false hiN 1
def loR : Rat := frac false 1 hiN
theorem hiR_of : rnum hiR = hiN ∧ hiR.den = 1 ∧ rneg hiR = false := frac_of (Nat.le_refl 1) (Nat.gcd_one_right _) (fun _ => rfl)
theorem loR_of : rnum loR = 1 ∧ loR.den = hiN ∧ rneg loR = false := frac_of hi_pos (Nat.gcd_one_left _) (fun _ => rfl)
structure HiLo (w : World) (A : Option Addr) (c : Nat) (A' : Option Addr) (c' : Nat) : Prop where
  hi : Rd w A 16 c (wds hiN)
  one : Rd w A' 1 c' (wds 1)
theorem HiLo.below {w w1 : World} {A A' : Option Addr} {c c' : Nat} (h : HiLo w A c A' c') (hb : Below w.heap.size w w1) : HiLo w1 A c A' c' := ⟨h.hi.below hb, h.one.below hb⟩
theorem Rd.setc {w : World} {b n c : Nat} {l : List Nat} {T : TypeId} {o : Nat} (h : Ar T w b o n c l) {a : Addr} {u : Value} (ha : a.block ≠ b) : Ar T (w.setCell a u) b o n c l := h.other a u (Ne.symm ha)
set_option maxRecDepth 100000 in
theorem height_bounds (w : World) :
    Calls Tryz.prog 126 #[] w fun e w' => ∃ A c A' c', e = .returned (.tuple #[.agg #[.bool false, .slice A 16 c, .slice A' 1 c'], .agg #[.bool false, .slice A' 1 c', .slice A 16 c]]) ∧ HiLo w' A c A' c' ∧ Below w.heap.size w w' := by
  obtain ⟨i0, hi0, hz0, hz1, hz2⟩ := info_parts u32_info
  have hmk := fun (w : World) => run_make_u32 (P := Tryz.prog) 22 116 i0 Tryz.underlying22 hi0 hz0 hz1 hz2 16 16 (by omega) (by omega) w
  obtain ⟨W2, hW2⟩ : ∃ W, (w.alloc (.cells #[.bool false, .slice none 0 0, .slice none 0 0] 24)).alloc (.cells #[.bool false, .slice none 0 0, .slice none 0 0] 24) = W := ⟨_, rfl⟩
  have hz : W2.heap.size = w.heap.size + 2 := by rw [← hW2]; simp
  have hb2 : Below w.heap.size w W2 := by rw [← hW2]; exact ((Below.refl _ _).alloc (Nat.le_refl _) _).alloc (by simp) _
  have k0 : W2.heap[w.heap.size]? = some (.cells #[.bool false, .slice none 0 0, .slice none 0 0] 24) := by rw [← hW2]; exact alloc_keep (heap_alloc_new w _) _
  have k1 : W2.heap[w.heap.size + 1]? = some (.cells #[.bool false, .slice none 0 0, .slice none 0 0] 24) := by rw [← hW2]; exact heap_new _ (by simp)
  have hA := ar_zeros 116 W2 16 (by omega)
  have hA1 := hA.set 15 1048576 (by omega) (by omega)
  rw [show (List.replicate 16 0).set 15 1048576 = wds hiN from hi_wds.symm, Nat.zero_add, hz] at hA1
  have hf := hA.free 15
  rw [hz] at hf
  obtain ⟨W3, hW3⟩ : ∃ W, (W2.alloc (.cells (zeros 16) 116)).setCell ⟨w.heap.size + 2, 15, none⟩ (.int .u32 1048576) = W := ⟨_, rfl⟩
  have hA1 : Ar 116 W3 (w.heap.size + 2) 0 16 16 (wds hiN) := by rw [← hW3]; exact hA1
  have hz3 : W3.heap.size = w.heap.size + 3 := by rw [← hW3]; simp [World.setCell, hz]
  have hb3 : Below w.heap.size w W3 := by rw [← hW3]; exact (hb2.alloc (by omega) _).setCell (by show w.heap.size ≤ w.heap.size + 2; omega) _
  have k03 : W3.heap[w.heap.size]? = some (.cells #[.bool false, .slice none 0 0, .slice none 0 0] 24) := by
    rw [← hW3, Below.heap_setCell _ _ _ _ (by simp)]; exact alloc_keep k0 _
  have k13 : W3.heap[w.heap.size + 1]? = some (.cells #[.bool false, .slice none 0 0, .slice none 0 0] 24) := by
    rw [← hW3, Below.heap_setCell _ _ _ _ (by simp)]; exact alloc_keep k1 _
  obtain ⟨W4, hW4⟩ : ∃ W, W3.alloc (.cells #[.int .u32 1] 116) = W := ⟨_, rfl⟩
  have hone : Ar 116 W4 (w.heap.size + 3) 0 1 1 (wds 1) := by
    rw [one_wds]
    exact ⟨#[.int .u32 1], by rw [← hW4]; exact heap_new _ hz3.symm, by simp, Nat.le_refl _, ⟨by omega, by unfold maxLen; omega⟩, rfl, by intro x hx; rcases List.mem_singleton.1 hx with rfl; decide, fun j hj => by
      match j, hj with
      | 0, _ => rfl⟩
  have hb34 : Below W3.heap.size W3 W4 := by rw [← hW4]; exact (Below.refl _ _).alloc (Nat.le_refl _) _
  have hA4 := hA1.below hb34
  have hb4 : Below w.heap.size w W4 := bel_step hb3 hb34
  have k04 := blk_below hb34 k03
  have k14 := blk_below hb34 k13
  obtain ⟨r0, r1, r2, r3, r4, r5⟩ := cell3 k04
  obtain ⟨s0, s1, s2, s3, s4, s5⟩ := cell3 k14
  have H := Lib.hid (And.intro hA4 (And.intro hone (And.intro hb4 (And.intro k04 k14))))
  clear hA hA1 hb2 hb3 k0 k1 k03 k13 hone hb34 hA4 hb4 k04 k14
  go_enter Tryz.func126, Tryz.ntmps126
  go_upto_region 1 with fail
  have HW2 := Lib.hid hW2
  clear hW2
  go_wp2_with fail
  have hA5 := ((H.out.1.setc (a := ⟨w.heap.size, 0, none⟩) (u := .bool false) (by simp)).setc (a := ⟨w.heap.size, 1, none⟩) (u := .slice (some ⟨w.heap.size + 2, 0, none⟩) 16 16) (by simp)).setc (a := ⟨w.heap.size, 2, none⟩) (u := .slice (some ⟨w.heap.size + 3, 0, none⟩) 1 1) (by simp)
  have hA6 := ((hA5.setc (a := ⟨w.heap.size + 1, 0, none⟩) (u := .bool false) (by simp)).setc (a := ⟨w.heap.size + 1, 1, none⟩) (u := .slice (some ⟨w.heap.size + 3, 0, none⟩) 1 1) (by simp)).setc (a := ⟨w.heap.size + 1, 2, none⟩) (u := .slice (some ⟨w.heap.size + 2, 0, none⟩) 16 16) (by simp)
  have hB5 := ((H.out.2.1.setc (a := ⟨w.heap.size, 0, none⟩) (u := .bool false) (by simp)).setc (a := ⟨w.heap.size, 1, none⟩) (u := .slice (some ⟨w.heap.size + 2, 0, none⟩) 16 16) (by simp)).setc (a := ⟨w.heap.size, 2, none⟩) (u := .slice (some ⟨w.heap.size + 3, 0, none⟩) 1 1) (by simp)
  have hB6 := ((hB5.setc (a := ⟨w.heap.size + 1, 0, none⟩) (u := .bool false) (by simp)).setc (a := ⟨w.heap.size + 1, 1, none⟩) (u := .slice (some ⟨w.heap.size + 3, 0, none⟩) 1 1) (by simp)).setc (a := ⟨w.heap.size + 1, 2, none⟩) (u := .slice (some ⟨w.heap.size + 2, 0, none⟩) 16 16) (by simp)
  exact bodyPost_ret (v := .tuple #[.agg #[.bool false, .slice (some ⟨w.heap.size + 2, 0, none⟩) 16 16, .slice (some ⟨w.heap.size + 3, 0, none⟩) 1 1], .agg #[.bool false, .slice (some ⟨w.heap.size + 3, 0, none⟩) 1 1, .slice (some ⟨w.heap.size + 2, 0, none⟩) 16 16]]) (by simp [results, Tryz.results126, go_sem, r0, r1, r2, s0, s1, s2]) rfl
    ⟨_, _, _, _, rfl, ⟨hA6.rd, hB6.rd⟩, below_set3 (below_set3 H.out.2.2.1 (Nat.le_refl _) _ _ _) (Nat.le_succ _) _ _ _⟩
/-- a fraction without its sign -/
def rab (r : Rat) : Rat := frac false (rnum r) r.den
theorem rab_of (r : Rat) : rnum (rab r) = rnum r ∧ (rab r).den = r.den ∧ rneg (rab r) = false := frac_of r.den_pos (rcop r) (fun _ => rfl)
theorem nrB_hi {r : Rat} (h0 : rnum r ≠ 0) : nrB r = (decide (rcmp (rab r) hiR ≤ 0) && decide (0 ≤ rcmp (rab r) loR)) := by
  obtain ⟨a1, a2, a3⟩ := rab_of r
  obtain ⟨b1, b2, b3⟩ := hiR_of
  obtain ⟨c1, c2, c3⟩ := loR_of
  rw [rcmp_nn a3 b3, rcmp_nn a3 c3, a1, a2, b1, b2, c1, c2, Nat.mul_one, Nat.one_mul]
  unfold nrB nrK
  rw [← hiN_pow, decide_eq_false h0, Bool.false_or, Bool.and_comm]
  have e1 : decide (rnum r ≤ r.den * hiN) = decide (cmpN (rnum r) (hiN * r.den) ≤ 0) := by
    rw [decide_eq_decide]
    unfold cmpN
    rw [Nat.mul_comm hiN]
    split
    · simp; omega
    · split <;> simp <;> omega
  have e2 : decide (r.den ≤ rnum r * hiN) = decide (0 ≤ cmpN (rnum r * hiN) r.den) := by
    rw [decide_eq_decide]
    unfold cmpN
    split
    · simp; omega
    · split <;> simp <;> omega
  rw [e1, e2]
theorem rcmp_cases (a b : Rat) : rcmp a b = -1 ∨ rcmp a b = 0 ∨ rcmp a b = 1 := by
  unfold rcmp
  split
  · exact .inl rfl
  · split
    · exact .inr (.inr rfl)
    · exact .inr (.inl rfl)
set_option maxRecDepth 100000 in
set_option maxHeartbeats 1000000 in
theorem height_reached {v : Value} {r : Rat} {A A' : Option Addr} {c c' : Nat} (w : World) (h : RtR w v r) (hf : fits r) (hh : HiLo w A c A' c') :
    Calls Tryz.prog 127 #[v, .agg #[.bool false, .slice A 16 c, .slice A' 1 c'], .agg #[.bool false, .slice A' 1 c', .slice A 16 c]] w fun e w' => e = .returned (.bool (nrB r)) ∧ Below w.heap.size w w' := by
  obtain ⟨B, d, B', d', rfl, h1, h2⟩ := h
  obtain ⟨a1, a2, a3⟩ := rab_of r
  obtain ⟨b1, b2, b3⟩ := hiR_of
  obtain ⟨c1, c2, c3⟩ := loR_of
  have f1 : fits (rab r) := by unfold fits; rw [a1, a2]; exact hf
  have f2 : fits hiR := by unfold fits; rw [b1, b2, hi_wl, one_wl]; omega
  have f3 : fits loR := by unfold fits; rw [c1, c2, hi_wl, one_wl]; omega
  have HC1 := Lib.hid (fun w' (hb : Below w.heap.size w w') => ratio_Compare_ok (rab r) hiR B B' A A' d d' c c' w' (by rw [a1]; exact h1.below hb) (by rw [a2]; exact h2.below hb) (by rw [b1, hi_wl]; exact hh.hi.below hb) (by rw [b2, one_wl]; exact hh.one.below hb) f1 f2)
  have HC2 := Lib.hid (fun w' (hb : Below w.heap.size w w') => ratio_Compare_ok (rab r) loR B B' A' A d d' c' c w' (by rw [a1]; exact h1.below hb) (by rw [a2]; exact h2.below hb) (by rw [c1, one_wl]; exact hh.one.below hb) (by rw [c2, hi_wl]; exact hh.hi.below hb) f1 f3)
  rw [a1, a2, a3, b1, b2, b3, hi_wl, one_wl] at HC1
  rw [a1, a2, a3, c1, c2, c3, hi_wl, one_wl] at HC2
  have HN := Lib.hid (fun h0 : rnum r ≠ 0 => nrB_hi h0)
  have HZ := Lib.hid (show rnum r = 0 → nrB r = true from fun h0 => by unfold nrB nrK; rw [decide_eq_true h0]; rfl)
  have HV1 := Lib.hid (rcmp_cases (rab r) hiR)
  have HV2 := Lib.hid (rcmp_cases (rab r) loR)
  clear a1 a2 a3 b1 b2 b3 c1 c2 c3 f1 f2 f3 h1 h2 hf
  generalize rcmp (rab r) hiR = k1 at *
  generalize rcmp (rab r) loR = k2 at *
  generalize nrB r = res at *
  generalize rneg r = g at *
  generalize rnum r = x at *
  generalize r.den = y at *
  clear hh r
  obtain ⟨W0, hW0⟩ : ∃ W, ((w.alloc (.cells #[.bool g, .slice B (wl x) d, .slice B' (wl y) d'] 24)).alloc (.cells #[.bool false, .slice A 16 c, .slice A' 1 c'] 24)).alloc (.cells #[.bool false, .slice A' 1 c', .slice A 16 c] 24) = W := ⟨_, rfl⟩
  have hb0 : Below w.heap.size w W0 := by rw [← hW0]; exact (((Below.refl _ _).alloc (Nat.le_refl _) _).alloc (by simp) _).alloc (by simp; omega) _
  have k0 : W0.heap[w.heap.size]? = some (.cells #[.bool g, .slice B (wl x) d, .slice B' (wl y) d'] 24) := by rw [← hW0]; exact alloc_keep (alloc_keep (heap_alloc_new w _) _) _
  have k1' : W0.heap[w.heap.size + 1]? = some (.cells #[.bool false, .slice A 16 c, .slice A' 1 c'] 24) := by rw [← hW0]; exact alloc_keep (heap_new _ (by simp)) _
  have k2' : W0.heap[w.heap.size + 2]? = some (.cells #[.bool false, .slice A' 1 c', .slice A 16 c] 24) := by rw [← hW0]; exact heap_new _ (by simp)
  have HB0 := Lib.hid (And.intro hb0 (And.intro k0 (And.intro k1' k2')))
  obtain ⟨r0, r1, r2, r3, r4, r5⟩ := cell3 k0
  clear hb0 k0 k1' k2'
  by_cases hx : x = 0
  · have HE := Lib.hid (HZ.out hx)
    have hwx : wl x = 0 := wl_eq_zero.2 hx
    have e0 : ((wl x : Int) == 0) = true := by rw [hwx]; rfl
    clear hx hwx
    go_enter Tryz.func127, Tryz.ntmps127
    go_wp2_with fail
    go_ret
    exact ⟨ret_bool HE.out.symm, HB0.out.1⟩
  · have hwx : 0 < wl x := by have := wl_eq_zero (x := x); omega
    have e0 : ((wl x : Int) == 0) = false := by simp; omega
    have HE := Lib.hid (HN.out hx)
    obtain ⟨W1, hW1⟩ : ∃ W, W0.setCell ⟨w.heap.size, 0, none⟩ (.bool false) = W := ⟨_, rfl⟩
    have hb1 : Below w.heap.size w W1 := by rw [← hW1]; exact HB0.out.1.setCell (Nat.le_refl _) _
    have j0 : W1.heap[w.heap.size]? = some (.cells #[.bool false, .slice B (wl x) d, .slice B' (wl y) d'] 24) := by rw [← hW1, World.setCell, Array.getElem?_modify, if_pos rfl, HB0.out.2.1]; rfl
    have j1 : W1.heap[w.heap.size + 1]? = some (.cells #[.bool false, .slice A 16 c, .slice A' 1 c'] 24) := by rw [← hW1, Below.heap_setCell _ _ _ _ (by simp)]; exact HB0.out.2.2.1
    have j2 : W1.heap[w.heap.size + 2]? = some (.cells #[.bool false, .slice A' 1 c', .slice A 16 c] 24) := by rw [← hW1, Below.heap_setCell _ _ _ _ (by simp)]; exact HB0.out.2.2.2
    have HB1 := Lib.hid (And.intro hb1 (And.intro j0 (And.intro j1 j2)))
    clear hb1 j0 j1 j2 hx HN HZ
    go_enter Tryz.func127, Tryz.ntmps127
    go_upto_region 3 with fail
    have HW0 := Lib.hid hW0
    clear hW0
    go_upto_region 4 with fail
    have HW1 := Lib.hid hW1
    clear hW1 r0 r1 r2 r3 r4 r5
    obtain ⟨r0, r1, r2, r3, r4, r5⟩ := cell3 HB1.out.2.1
    obtain ⟨s0, s1, s2, s3, s4, s5⟩ := cell3 HB1.out.2.2.1
    go_wp2_with fail
    refine (HC1.out W1 HB1.out.1).mono ?_
    rintro e w2 ⟨rfl, hB2⟩
    have HB2 := Lib.hid (And.intro (bel_step HB1.out.1 hB2) (And.intro (blk_below hB2 HB1.out.2.1) (blk_below hB2 HB1.out.2.2.2)))
    clear r0 r1 r2 r3 r4 r5 s0 s1 s2 s3 s4 s5 hB2
    obtain ⟨r0, r1, r2, r3, r4, r5⟩ := cell3 HB2.out.2.1
    obtain ⟨s0, s1, s2, s3, s4, s5⟩ := cell3 HB2.out.2.2
    go_wp2_with fail
    refine (HC2.out w2 HB2.out.1).mono ?_
    rintro e w3 ⟨rfl, hB3⟩
    have HB3 := Lib.hid (bel_step HB2.out.1 hB3)
    clear r0 r1 r2 r3 r4 r5 s0 s1 s2 s3 s4 s5 hB3
    rcases HV1.out with rfl | rfl | rfl <;> rcases HV2.out with rfl | rfl | rfl <;> (
      go_wp2_with fail
      go_ret
      exact ⟨ret_bool (HE.out.trans rfl).symm, HB3.out⟩)
end Go.Proofs.YtcbkijeonilcjaaGreat
