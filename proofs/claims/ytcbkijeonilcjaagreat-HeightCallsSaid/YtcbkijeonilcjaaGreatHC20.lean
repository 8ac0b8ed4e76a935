/- The references of layers 3, 4, 13: which fractions, complex fractions, constituents may be. -/
import Derived.Test.YtcbkijeonilcjaaGreatHC11
import Derived.Test.YtcbkijeonilcjaaGreatHC17
import Derived.Test.YtcbkijeonilcjaaGreatHC19
namespace Go.Proofs.YtcbkijeonilcjaaGreat
open Go.RowKit

theorem wds_one : wds 1 = [1] := by rw [wds_pos (by omega)]; rw [show 1 / 4294967296 = 0 from by omega, wds_zero]
theorem wds_eq_one {x : Nat} : wds x = [1] ↔ x = 1 := by
  constructor
  · intro h
    have := val_wds x
    rw [h] at this
    simp [val] at this; exact this.symm
  · rintro rfl; exact wds_one
set_option maxRecDepth 100000 in
set_option maxHeartbeats 1000000 in
/-- numbers in their one form: what is asked last -/
theorem ref03_Check_ok (g : Bool) (A A' : Option Addr) (c c' x y : Nat) (w : World) (h : Rd w A (wl x) c (wds x)) (h' : Rd w A' (wl y) c' (wds y)) (hx : wl x ≤ 2048) (hy : wl y ≤ 2048) (hy0 : 0 < wl y) (hg : wl x = 0 → g = false) :
    Calls Tryz.prog 129 #[.agg #[.bool g, .slice A (wl x) c, .slice A' (wl y) c']] w fun e w' => e = .returned (.int .i64 (cop x y)) ∧ Below w.heap.size w w' := by
  have e1 : Hid (nfB (wds x) = true) := (nfB_iff (lim_wds x)).2 (nf_wds x)
  have e2 : Hid (nfB (wds y) = true) := (nfB_iff (lim_wds y)).2 (nf_wds y)
  have e3 : ((wl y : Int) == 0) = false := by simp; omega
  have e4 : ((2048 : Int) < (wl x : Int)) = False := by simp; omega
  have e5 : ((2048 : Int) < (wl y : Int)) = False := by simp; omega
  have HH := Lib.hid (And.intro (h.below ((Below.refl _ _).alloc (Nat.le_refl _) (.cells #[.bool g, .slice A (wl x) c, .slice A' (wl y) c'] 24))) (h'.below ((Below.refl _ _).alloc (Nat.le_refl _) (.cells #[.bool g, .slice A (wl x) c, .slice A' (wl y) c'] 24))))
  have HG : Hid (0 < wl y ∧ (wl x = 0 → g = false)) := ⟨hy0, hg⟩
  have hyp : 0 < y := wl_pos_iff.1 hy0
  clear hg
  by_cases h0 : wl x = 0
  all_goals
    first
      | (have e6 : ((wl x : Int) == 0) = true := by rw [h0]; rfl
         obtain rfl := HG.out.2 h0)
      | have e6 : ((wl x : Int) == 0) = false := by simp; omega
    clear h0
    go_enter Tryz.func129, Tryz.ntmps129
    go_wp2_with fail
    refine (ref03_trimmed A _ c _ _ HH.out.1).mono ?_
    rintro e w1 ⟨rfl, n1, rfl⟩
    rw [e1.out]
    go_wp2_with fail
    refine (ref03_trimmed A' _ c' _ _ (HH.out.2.drewN _)).mono ?_
    rintro e w1 ⟨rfl, n2, rfl⟩
    rw [e2.out]
    go_wp2_with fail
    refine (ref01_Gcd A A' c c' x y _ (HH.out.1.drewN _) (HH.out.2.drewN _) (by omega) (by omega) hyp).mono ?_
    rintro e w2 ⟨v, rfl, hO, hB⟩
    obtain ⟨Ag, cg, rfl, hRg⟩ := hO.wl0
    have HBB := Lib.hid (show Below w.heap.size w w2 from (below_drewN ((Below.refl _ _).alloc (Nat.le_refl _) _) _).trans (hB.mono (by simp)))
    clear hO hB
    go_wp2_with fail
    refine (ref03_one _).mono ?_
    rintro e w3 ⟨A3, c3, rfl, hR3, hB3⟩
    have HB3 := Lib.hid (HBB.out.trans (hB3.mono HBB.out.size))
    have hRg3 := hRg.below hB3
    clear hB3 hRg
    go_wp2_with fail
    refine (ref03_same Ag A3 _ _ cg c3 _ _ _ hRg3 hR3).mono ?_
    rintro e w4 ⟨rfl, n4, rfl⟩
    by_cases hc1 : Nat.gcd x y = 1
    · have hd : decide (wds (Nat.gcd x y) = [1]) = true := by rw [decide_eq_true_iff]; exact wds_eq_one.2 hc1
      have HE : Hid (cop x y = 0) := by show cop x y = 0; unfold cop; rw [if_pos hc1]
      rw [hd]
      clear hd hc1
      go_wp2_with fail
      go_ret
      exact ⟨ret_int HE.out.symm, below_drewN HB3.out _⟩
    · have hd : decide (wds (Nat.gcd x y) = [1]) = false := by rw [decide_eq_false_iff_not]; exact fun e => hc1 (wds_eq_one.1 e)
      have HE : Hid (cop x y = 11) := by show cop x y = 11; unfold cop; rw [if_neg hc1]
      rw [hd]
      clear hd hc1
      go_wp2_with fail
      go_ret
      exact ⟨ret_int HE.out.symm, below_drewN HB3.out _⟩
set_option maxRecDepth 100000 in
set_option maxHeartbeats 1000000 in
theorem ref03_Check (g : Bool) (A A' : Option Addr) (n n' c c' : Nat) (l l' : List Nat) (w : World) (h : Rd w A n c l) (h' : Rd w A' n' c' l') :
    Calls Tryz.prog 129 #[.agg #[.bool g, .slice A n c, .slice A' n' c']] w fun e w' => e = .returned (.int .i64 (chkR g l l')) ∧ Below w.heap.size w w' := by
  have hl := h.len
  have hl' := h'.len
  have HH := Lib.hid (And.intro (h.below ((Below.refl _ _).alloc (Nat.le_refl _) (.cells #[.bool g, .slice A n c, .slice A' n' c'] 24))) (h'.below ((Below.refl _ _).alloc (Nat.le_refl _) (.cells #[.bool g, .slice A n c, .slice A' n' c'] 24))))
  obtain ⟨q, hq⟩ : ∃ q, chkR g l l' = q := ⟨_, rfl⟩
  rw [hq]
  have HQ := Lib.hid hq
  clear hq
  by_cases h1 : 2048 < n
  · have HE : Hid (q = 3) := by show q = 3; rw [← HQ.out]; unfold chkR; rw [if_pos (.inl (by omega))]
    have e4 : ((2048 : Int) < (n : Int)) = True := by simp; omega
    clear hl hl' h1
    go_enter Tryz.func129, Tryz.ntmps129
    go_wp2
    go_ret
    exact ⟨ret_int HE.out.symm, (Below.refl _ _).alloc (Nat.le_refl _) _⟩
  · have e4 : ((2048 : Int) < (n : Int)) = False := by simp; omega
    by_cases h2 : 2048 < n'
    · have HE : Hid (q = 3) := by show q = 3; rw [← HQ.out]; unfold chkR; rw [if_pos (.inr (by omega))]
      have e5 : ((2048 : Int) < (n' : Int)) = True := by simp; omega
      clear hl hl' h1 h2
      go_enter Tryz.func129, Tryz.ntmps129
      go_wp2
      go_ret
      exact ⟨ret_int HE.out.symm, (Below.refl _ _).alloc (Nat.le_refl _) _⟩
    · have e5 : ((2048 : Int) < (n' : Int)) = False := by simp; omega
      by_cases h3 : nfB l = true
      · have e1 := Lib.hid h3
        by_cases h6 : nfB l' = true
        · have e2 := Lib.hid h6
          by_cases h7 : n' = 0
          · have HE : Hid (q = 11) := by show q = 11; rw [← HQ.out]; unfold chkR; rw [if_neg (by omega), if_pos (.inr (.inr (by omega)))]
            have e3 : ((n' : Int) == 0) = true := by simp; omega
            clear hl hl' h1 h2 h3 h6 h7
            go_enter Tryz.func129, Tryz.ntmps129
            go_wp2_with fail
            refine (ref03_trimmed A _ c l _ HH.out.1).mono ?_
            rintro e w1 ⟨rfl, n1, rfl⟩
            rw [e1.out]
            go_wp2_with fail
            refine (ref03_trimmed A' _ c' l' _ (HH.out.2.drewN _)).mono ?_
            rintro e w1 ⟨rfl, n2, rfl⟩
            rw [e2.out]
            go_wp2
            go_ret
            exact ⟨ret_int HE.out.symm, below_drewN ((Below.refl _ _).alloc (Nat.le_refl _) _) _⟩
          · have e3 : ((n' : Int) == 0) = false := by simp; omega
            have N1 : nf l := (nfB_iff h.lim).1 h3
            have N2 : nf l' := (nfB_iff h'.lim).1 h6
            by_cases h8 : n = 0 ∧ g = true
            · have HE : Hid (q = 11) := by
                show q = 11; rw [← HQ.out]; unfold chkR; rw [if_neg (by omega), if_neg (by simp [h3, h6]; intro h9; rw [h9] at hl'; simp at hl'; omega), if_pos ⟨by omega, h8.2⟩]
              have e6 : ((n : Int) == 0) = true := by simp; omega
              obtain rfl := h8.2
              clear hl hl' h1 h2 h3 h6 h7 h8 N1 N2
              go_enter Tryz.func129, Tryz.ntmps129
              go_wp2_with fail
              refine (ref03_trimmed A _ c l _ HH.out.1).mono ?_
              rintro e w1 ⟨rfl, n1, rfl⟩
              rw [e1.out]
              go_wp2_with fail
              refine (ref03_trimmed A' _ c' l' _ (HH.out.2.drewN _)).mono ?_
              rintro e w1 ⟨rfl, n2, rfl⟩
              rw [e2.out]
              go_wp2
              go_ret
              exact ⟨ret_int HE.out.symm, below_drewN ((Below.refl _ _).alloc (Nat.le_refl _) _) _⟩
            · have HE : q = cop (val l) (val l') := by
                rw [← HQ.out]; unfold chkR; rw [if_neg (by omega), if_neg (by simp [h3, h6]; intro h9; rw [h9] at hl'; simp at hl'; omega), if_neg (fun h => h8 ⟨by omega, h.2⟩)]
              rw [HE]
              have w1 := wds_val N1
              have w2 := wds_val N2
              have m1 : n = wl (val l) := by rw [wl, w1]; omega
              have m2 : n' = wl (val l') := by rw [wl, w2]; omega
              rw [← w1] at h
              rw [← w2] at h'
              clear w1 w2 HH e1 e2 e3 e4 e5 N1 N2 HE HQ hl hl'
              subst m1 m2
              exact ref03_Check_ok g A A' c c' _ _ w h h' (by omega) (by omega) (by omega) (fun e => by cases g; rfl; exact absurd ⟨e, rfl⟩ h8)
        · have e2 := Lib.hid (show nfB l' = false by simpa using h6)
          have HE : Hid (q = 11) := by show q = 11; rw [← HQ.out]; unfold chkR; rw [if_neg (by omega), if_pos (.inr (.inl (by simpa using h6)))]
          clear hl hl' h1 h2 h3 h6
          go_enter Tryz.func129, Tryz.ntmps129
          go_wp2_with fail
          refine (ref03_trimmed A _ c l _ HH.out.1).mono ?_
          rintro e w1 ⟨rfl, n1, rfl⟩
          rw [e1.out]
          go_wp2_with fail
          refine (ref03_trimmed A' _ c' l' _ (HH.out.2.drewN _)).mono ?_
          rintro e w1 ⟨rfl, n2, rfl⟩
          rw [e2.out]
          go_wp2
          go_ret
          exact ⟨ret_int HE.out.symm, below_drewN ((Below.refl _ _).alloc (Nat.le_refl _) _) _⟩
      · have e1 := Lib.hid (show nfB l = false by simpa using h3)
        have HE : Hid (q = 11) := by show q = 11; rw [← HQ.out]; unfold chkR; rw [if_neg (by omega), if_pos (.inl (by simpa using h3))]
        clear hl hl' h1 h2 h3
        go_enter Tryz.func129, Tryz.ntmps129
        go_wp2_with fail
        refine (ref03_trimmed A _ c l _ HH.out.1).mono ?_
        rintro e w1 ⟨rfl, n1, rfl⟩
        rw [e1.out]
        go_wp2
        go_ret
        exact ⟨ret_int HE.out.symm, below_drewN ((Below.refl _ _).alloc (Nat.le_refl _) _) _⟩

end Go.Proofs.YtcbkijeonilcjaaGreat

/- The references of layers 4, 13: which complex fractions, constituents may be. -/
namespace Go.Proofs.YtcbkijeonilcjaaGreat
open Go.RowKit

set_option maxRecDepth 100000 in
set_option maxHeartbeats 1000000 in
theorem ref04_Check {g1 g2 : Bool} {A1 A1' A2 A2' : Option Addr} {n1 n1' n2 n2' c1 c1' c2 c2' : Nat} {l1 l1' l2 l2' : List Nat} (w : World) (h1 : Rd w A1 n1 c1 l1) (h1' : Rd w A1' n1' c1' l1') (h2 : Rd w A2 n2 c2 l2) (h2' : Rd w A2' n2' c2' l2') :
    Calls Tryz.prog 212 #[.agg #[.bool g1, .slice A1 n1 c1, .slice A1' n1' c1', .bool g2, .slice A2 n2 c2, .slice A2' n2' c2']] w fun e1 w' => e1 = .returned (.int .i64 (chk2 (chkR g1 l1 l1') (chkR g2 l2 l2'))) ∧ Below w.heap.size w w' := by
  obtain ⟨W0, hW0⟩ : ∃ x, w.alloc (.cells #[.bool g1, .slice A1 n1 c1, .slice A1' n1' c1', .bool g2, .slice A2 n2 c2, .slice A2' n2' c2'] 83) = x := ⟨_, rfl⟩
  have hb0 : Below w.heap.size w W0 := by rw [← hW0]; exact (Below.refl _ _).alloc (Nat.le_refl _) _
  have hk : W0.heap[w.heap.size]? = some (.cells #[.bool g1, .slice A1 n1 c1, .slice A1' n1' c1', .bool g2, .slice A2 n2 c2, .slice A2' n2' c2'] 83) := by rw [← hW0]; exact heap_alloc_new w _
  obtain ⟨⟨z0, z1, z2⟩, z3, z4, z5⟩ := cell6 hk
  have HA := Lib.hid (And.intro hb0 (And.intro hk (And.intro (h1.below hb0) (And.intro (h1'.below hb0) (And.intro (h2.below hb0) (h2'.below hb0))))))
  clear hb0 hk h1 h1' h2 h2'
  go_enter Tryz.func212, Tryz.ntmps212
  go_wp2_with fail
  have HW0 := Lib.hid hW0
  clear hW0
  refine (ref03_Check g1 A1 A1' n1 n1' c1 c1' l1 l1' _ HA.out.2.2.1 HA.out.2.2.2.1).mono ?_
  rintro e1 w1 ⟨rfl, hB1⟩
  by_cases h0 : chkR g1 l1 l1' = 0
  · have HE : Hid (chk2 (chkR g1 l1 l1') (chkR g2 l2 l2') = chkR g2 l2 l2') := by show chk2 _ _ = _; unfold chk2; rw [if_pos h0]
    rw [h0]
    clear h0 z0 z1 z2 z3 z4 z5
    obtain ⟨⟨z0, z1, z2⟩, z3, z4, z5⟩ := cell6 ((hB1.block _ (heap_lt HA.out.2.1)).trans HA.out.2.1)
    have HB1 := Lib.hid hB1
    clear hB1
    go_wp2_with fail
    refine (ref03_Check g2 A2 A2' n2 n2' c2 c2' l2 l2' _ (HA.out.2.2.2.2.1.below HB1.out) (HA.out.2.2.2.2.2.below HB1.out)).mono ?_
    rintro e1 w2 ⟨rfl, hB2⟩
    go_wp2_with fail
    go_ret
    exact ⟨ret_int HE.out.symm, (HA.out.1.trans (HB1.out.mono HA.out.1.size)).trans (hB2.mono (Nat.le_trans HA.out.1.size HB1.out.size))⟩
  · have HE : Hid (chk2 (chkR g1 l1 l1') (chkR g2 l2 l2') = chkR g1 l1 l1') := by show chk2 _ _ = _; unfold chk2; rw [if_neg h0]
    have e9 : (chkR g1 l1 l1' != 0) = true := by simp [h0]
    clear h0
    have HB1 := Lib.hid hB1
    clear hB1
    go_wp2_with fail
    go_ret
    exact ⟨ret_int HE.out.symm, HA.out.1.trans (HB1.out.mono HA.out.1.size)⟩
set_option maxRecDepth 100000 in
set_option maxHeartbeats 1000000 in
theorem ref13_Check (s : ByteArray) (f n : Int) {g1 g2 : Bool} {A1 A1' A2 A2' : Option Addr} {n1 n1' n2 n2' c1 c1' c2 c2' : Nat} {l1 l1' l2 l2' : List Nat} (w : World) (hs : s.size ≤ maxLen) (hf : f.natAbs ≤ 2147483648) (hn : n.natAbs ≤ 2147483648)
    (h1 : Rd w A1 n1 c1 l1) (h1' : Rd w A1' n1' c1' l1') (h2 : Rd w A2 n2 c2 l2) (h2' : Rd w A2' n2' c2' l2') :
    Calls Tryz.prog 130 #[.agg #[.string s, .int .i32 f, .int .i32 n, .bool g1, .slice A1 n1 c1, .slice A1' n1' c1', .bool g2, .slice A2 n2 c2, .slice A2' n2' c2']] w fun e1 w' => e1 = .returned (.int .i64 (tideE s f n (chk2 (chkR g1 l1 l1') (chkR g2 l2 l2')))) ∧ Below w.heap.size w w' := by
  obtain ⟨W0, hW0⟩ : ∃ x, w.alloc (.cells #[.string s, .int .i32 f, .int .i32 n, .bool g1, .slice A1 n1 c1, .slice A1' n1' c1', .bool g2, .slice A2 n2 c2, .slice A2' n2' c2'] 85) = x := ⟨_, rfl⟩
  have hb0 : Below w.heap.size w W0 := by rw [← hW0]; exact (Below.refl _ _).alloc (Nat.le_refl _) _
  have hk : W0.heap[w.heap.size]? = some (.cells #[.string s, .int .i32 f, .int .i32 n, .bool g1, .slice A1 n1 c1, .slice A1' n1' c1', .bool g2, .slice A2 n2 c2, .slice A2' n2' c2'] 85) := by rw [← hW0]; exact heap_alloc_new w _
  obtain ⟨z0, z1, z2, z3, z4, z5, z6, z7, z8⟩ := cell9 hk
  have HA := Lib.hid (And.intro hb0 (And.intro hk (And.intro (h1.below hb0) (And.intro (h1'.below hb0) (And.intro (h2.below hb0) (h2'.below hb0))))))
  have HS := Lib.hid (And.intro hs (And.intro hf hn))
  clear hb0 hk h1 h1' h2 h2' hs hf hn
  go_enter Tryz.func130, Tryz.ntmps130
  go_wp2_with fail
  have HW0 := Lib.hid hW0
  clear hW0
  refine (ref13_Name s _ HS.out.1).mono ?_
  rintro e1 W0' ⟨rfl, rfl⟩
  cases hnm : nameB s
  · have HE : Hid (tideE s f n (chk2 (chkR g1 l1 l1') (chkR g2 l2 l2')) = 4) := by show tideE _ _ _ _ = 4; unfold tideE; rw [hnm, if_neg (by simp)]
    clear hnm
    go_wp2_with fail
    go_ret
    exact ⟨ret_int HE.out.symm, HA.out.1⟩
  · have HE : Hid (tideE s f n (chk2 (chkR g1 l1 l1') (chkR g2 l2 l2')) = chk2 (rotE f n) (chk2 (chkR g1 l1 l1') (chkR g2 l2 l2'))) := by show tideE _ _ _ _ = _; unfold tideE; rw [if_pos hnm]
    clear hnm
    go_wp2_with fail
    refine (ref05_Check f n _ HS.out.2.1 HS.out.2.2).mono ?_
    rintro e1 w1 ⟨rfl, hB1⟩
    by_cases hr : rotE f n = 0
    · have HR : Hid (chk2 (rotE f n) (chk2 (chkR g1 l1 l1') (chkR g2 l2 l2')) = chk2 (chkR g1 l1 l1') (chkR g2 l2 l2')) := by show chk2 _ _ = _; rw [hr]; rfl
      rw [hr]
      clear hr z0 z1 z2 z3 z4 z5 z6 z7 z8
      obtain ⟨z0, z1, z2, z3, z4, z5, z6, z7, z8⟩ := cell9 ((hB1.block _ (heap_lt HA.out.2.1)).trans HA.out.2.1)
      have HB1 := Lib.hid hB1
      clear hB1
      go_wp2_with fail
      refine (ref04_Check _ (HA.out.2.2.1.below HB1.out) (HA.out.2.2.2.1.below HB1.out) (HA.out.2.2.2.2.1.below HB1.out) (HA.out.2.2.2.2.2.below HB1.out)).mono ?_
      rintro e1 w2 ⟨rfl, hB2⟩
      go_wp2_with fail
      go_ret
      exact ⟨ret_int (HE.out.trans HR.out).symm, (HA.out.1.trans (HB1.out.mono HA.out.1.size)).trans (hB2.mono (Nat.le_trans HA.out.1.size HB1.out.size))⟩
    · have HR : Hid (chk2 (rotE f n) (chk2 (chkR g1 l1 l1') (chkR g2 l2 l2')) = rotE f n) := chk2_ne hr _
      have e9 : (rotE f n != 0) = true := by simp [hr]
      clear hr
      have HB1 := Lib.hid hB1
      clear hB1
      go_wp2_with fail
      go_ret
      exact ⟨ret_int (HE.out.trans HR.out).symm, HA.out.1.trans (HB1.out.mono HA.out.1.size)⟩
end Go.Proofs.YtcbkijeonilcjaaGreat
