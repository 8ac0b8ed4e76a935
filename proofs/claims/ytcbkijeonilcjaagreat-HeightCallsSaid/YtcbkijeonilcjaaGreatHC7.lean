/- Package ratio: which fractions may be. -/
import Derived.Test.YtcbkijeonilcjaaGreatHC6
import Derived.Deep.RegionHeld3
import Derived.Deep.QuietTactic
import Derived.BigQuiet
namespace Go.Proofs.YtcbkijeonilcjaaGreat
open Go.RowKit

theorem ratio_long (A : Option Addr) (n c : Nat) (w : World) :
    Calls Tryz.prog 147 #[.slice A n c] w fun e w' => e = .returned (.bool (decide ((2048 : Int) < (n : Int)))) ∧ w' = w := by
  go_enter Tryz.func147, Tryz.ntmps147
  go_wp2
  go_ret
  exact ⟨rfl, rfl⟩

def cmpB (n : Nat) : Bool := cmpN n 1 != 0
theorem cmpB_iff {n : Nat} (h : 0 < n) : cmpB n = decide (n ≠ 1) := by
  unfold cmpB cmpN
  by_cases h1 : n = 1
  · subst h1; decide
  · rw [if_neg (by omega), if_pos (by omega)]; simp [h1]

/-- 0, if two numbers have no common divisor; else 11 -/
def cop (x y : Nat) : Int := if Nat.gcd x y = 1 then 0 else 11
theorem rd_one (T : TypeId) (w : World) : Rd (w.alloc (.cells #[.int .u32 1] T)) (some ⟨w.heap.size, 0, none⟩) 1 1 [1] :=
  (show Ar T (w.alloc (.cells #[.int .u32 1] T)) w.heap.size 0 1 1 [1] from ⟨_, heap_alloc_new w _, by simp, Nat.le_refl _, ⟨by omega, by unfold maxLen; omega⟩, rfl, fun x hx => by simp at hx; omega, fun j hj => by
    obtain rfl : j = 0 := by omega
    simp [wd]⟩).rd

/-- numbers in their one form: what is asked last -/
theorem ratio_Check_ok (g : Bool) (A A' : Option Addr) (c c' x y : Nat) (w : World) (h : Rd w A (wl x) c (wds x)) (h' : Rd w A' (wl y) c' (wds y)) (hx : wl x ≤ 2048) (hy : wl y ≤ 2048) (hy0 : 0 < wl y) (hg : wl x = 0 → g = false) :
    Calls Tryz.prog 73 #[.agg #[.bool g, .slice A (wl x) c, .slice A' (wl y) c']] w fun e w' => e = .returned (.int .i64 (cop x y)) ∧ Below w.heap.size w w' := by
  have e1 : Hid (chkN (wds x) = 0) := chkN_wds (by omega)
  have e2 : Hid (chkN (wds y) = 0) := chkN_wds (by omega)
  have e3 : ((wl y : Int) == 0) = false := by simp; omega
  have e4 : ((2048 : Int) < (wl x : Int)) = False := by simp; omega
  have e5 : ((2048 : Int) < (wl y : Int)) = False := by simp; omega
  have Hh := h.below ((Below.refl _ _).alloc (Nat.le_refl _) (.cells #[.bool g, .slice A (wl x) c, .slice A' (wl y) c'] 24))
  have Hh' := h'.below ((Below.refl _ _).alloc (Nat.le_refl _) (.cells #[.bool g, .slice A (wl x) c, .slice A' (wl y) c'] 24))
  have HG : Hid (0 < wl y ∧ (wl x = 0 → g = false)) := ⟨hy0, hg⟩
  clear hg
  by_cases h0 : wl x = 0
  all_goals
    first
      | (have e6 : ((wl x : Int) == 0) = true := by rw [h0]; rfl
         obtain rfl := HG.out.2 h0)
      | have e6 : ((wl x : Int) == 0) = false := by simp; omega
    clear h0
    go_enter Tryz.func73, Tryz.ntmps73
    go_wp2_with fail
    refine (ratio_long A _ c _).mono ?_
    rintro e w1 ⟨rfl, rfl⟩
    go_wp2_with fail
    refine (ratio_long A' _ c' _).mono ?_
    rintro e w1 ⟨rfl, rfl⟩
    go_wp2_with fail
    refine (nat_Check A _ c _ _ Hh).mono ?_
    rintro e w1 ⟨rfl, n1, rfl⟩
    rw [e1.out]
    go_wp2_with fail
    refine (nat_Check A' _ c' _ _ (Hh'.drewN _)).mono ?_
    rintro e w1 ⟨rfl, n2, rfl⟩
    rw [e2.out]
    go_wp2_with fail
    refine (nat_Gcd A A' c c' x y _ (Hh.drewN _) (Hh'.drewN _) (by omega) (by omega)).mono ?_
    rintro e w2 ⟨v, rfl, hO, hB⟩
    obtain ⟨Ag, cg, rfl, hRg⟩ := hO.wl0
    have HBB := Lib.hid (show Below w.heap.size w w2 from (below_drewN ((Below.refl _ _).alloc (Nat.le_refl _) _) _).trans (hB.mono (by simp)))
    have hRg2 := hRg.below ((Below.refl _ _).alloc (Nat.le_refl _) (.cells #[.int .u32 1] 116))
    have hOne : Rd (w2.alloc (.cells #[.int .u32 1] 116)) (some ⟨w2.heap.size, 0, none⟩) 1 1 [1] := rd_one _ _
    clear hRg hO hB
    have HP : Hid (0 < Nat.gcd x y) := Nat.gcd_pos_of_pos_right x (by
          rcases Nat.eq_zero_or_pos y with h2 | h2
          · rw [h2, wl_zero] at hy0; omega
          · exact h2)
    go_wp2_with fail
    refine (nat_Compare _ _ _ _ _ _ (Nat.gcd x y) 1 _ _ _ hRg2 hOne (val_wds _) (by simp [val])).mono ?_
    rintro e w3 ⟨rfl, n3, rfl⟩
    have HC : Hid ((cmpN (Nat.gcd x y) 1 = 0 ∧ cop x y = 0) ∨ ((cmpN (Nat.gcd x y) 1 = 1) ∧ cop x y = 11)) := by
      show (cmpN (Nat.gcd x y) 1 = 0 ∧ cop x y = 0) ∨ ((cmpN (Nat.gcd x y) 1 = 1) ∧ cop x y = 11)
      have hp := HP.out
      by_cases hc1 : Nat.gcd x y = 1
      · exact .inl ⟨by rw [hc1]; rfl, by unfold cop; rw [if_pos hc1]⟩
      · exact .inr ⟨by unfold cmpN; rw [if_neg (by omega), if_pos (by omega)], by unfold cop; rw [if_neg hc1]⟩
    rcases HC.out with ⟨HC1, HC2⟩ | ⟨HC1, HC2⟩
    all_goals
      rw [HC1]
      have HC3 := Lib.hid HC2
      clear HC1 HC2
      go_wp2
      go_ret
      exact ⟨ret_int HC3.out.symm, below_drewN (HBB.out.alloc HBB.out.size _) _⟩

def chkR (g : Bool) (l l' : List Nat) : Int :=
  if 2048 < l.length ∨ 2048 < l'.length then 3 else if nfB l = false ∨ nfB l' = false ∨ l'.length = 0 then 11 else if l.length = 0 ∧ g = true then 11 else cop (val l) (val l')

set_option maxHeartbeats 1000000 in
/-- why a fraction may not be, whatever was handed in -/
theorem ratio_Check (g : Bool) (A A' : Option Addr) (n n' c c' : Nat) (l l' : List Nat) (w : World) (h : Rd w A n c l) (h' : Rd w A' n' c' l') :
    Calls Tryz.prog 73 #[.agg #[.bool g, .slice A n c, .slice A' n' c']] w fun e w' => e = .returned (.int .i64 (chkR g l l')) ∧ Below w.heap.size w w' := by
  have hl := h.len
  have hl' := h'.len
  have Hh := h.below ((Below.refl _ _).alloc (Nat.le_refl _) (.cells #[.bool g, .slice A n c, .slice A' n' c'] 24))
  have Hh' := h'.below ((Below.refl _ _).alloc (Nat.le_refl _) (.cells #[.bool g, .slice A n c, .slice A' n' c'] 24))
  by_cases h1 : 2048 < n
  · have HE : Hid (chkR g l l' = 3) := by show chkR g l l' = 3; unfold chkR; rw [if_pos (.inl (by omega))]
    have e4 : ((2048 : Int) < (n : Int)) = True := by simp; omega
    rw [HE.out]
    clear hl hl' h1
    go_enter Tryz.func73, Tryz.ntmps73
    go_wp2_with fail
    refine (ratio_long A _ c _).mono ?_
    rintro e w1 ⟨rfl, rfl⟩
    go_wp2
    go_ret
    exact ⟨rfl, (Below.refl _ _).alloc (Nat.le_refl _) _⟩
  · have e4 : ((2048 : Int) < (n : Int)) = False := by simp; omega
    by_cases h2 : 2048 < n'
    · have HE : Hid (chkR g l l' = 3) := by show chkR g l l' = 3; unfold chkR; rw [if_pos (.inr (by omega))]
      have e5 : ((2048 : Int) < (n' : Int)) = True := by simp; omega
      rw [HE.out]
      clear hl hl' h1 h2
      go_enter Tryz.func73, Tryz.ntmps73
      go_wp2_with fail
      refine (ratio_long A _ c _).mono ?_
      rintro e w1 ⟨rfl, rfl⟩
      go_wp2_with fail
      refine (ratio_long A' _ c' _).mono ?_
      rintro e w1 ⟨rfl, rfl⟩
      go_wp2
      go_ret
      exact ⟨rfl, (Below.refl _ _).alloc (Nat.le_refl _) _⟩
    · have e5 : ((2048 : Int) < (n' : Int)) = False := by simp; omega
      by_cases h3 : nfB l = true
      · have e1 : Hid (chkN l = 0) := by show chkN l = 0; unfold chkN; rw [if_neg (by omega), if_pos h3]
        by_cases h6 : nfB l' = true
        · have e2 : Hid (chkN l' = 0) := by show chkN l' = 0; unfold chkN; rw [if_neg (by omega), if_pos h6]
          by_cases h7 : n' = 0
          · have HE : Hid (chkR g l l' = 11) := by show chkR g l l' = 11; unfold chkR; rw [if_neg (by omega), if_pos (.inr (.inr (by omega)))]
            have e3 : ((n' : Int) == 0) = true := by simp; omega
            rw [HE.out]
            clear hl hl' h1 h2 h3 h6 h7
            go_enter Tryz.func73, Tryz.ntmps73
            go_wp2_with fail
            refine (ratio_long A _ c _).mono ?_
            rintro e w1 ⟨rfl, rfl⟩
            go_wp2_with fail
            refine (ratio_long A' _ c' _).mono ?_
            rintro e w1 ⟨rfl, rfl⟩
            go_wp2_with fail
            refine (nat_Check A _ c _ _ Hh).mono ?_
            rintro e w1 ⟨rfl, n1, rfl⟩
            rw [e1.out]
            go_wp2_with fail
            refine (nat_Check A' _ c' _ _ (Hh'.drewN _)).mono ?_
            rintro e w1 ⟨rfl, n2, rfl⟩
            rw [e2.out]
            go_wp2
            go_ret
            exact ⟨rfl, below_drewN ((Below.refl _ _).alloc (Nat.le_refl _) _) _⟩
          · have e3 : ((n' : Int) == 0) = false := by simp; omega
            have N1 : nf l := (nfB_iff h.lim).1 h3
            have N2 : nf l' := (nfB_iff h'.lim).1 h6
            by_cases h8 : n = 0 ∧ g = true
            · have HE : Hid (chkR g l l' = 11) := by
                show chkR g l l' = 11; unfold chkR; rw [if_neg (by omega), if_neg (by simp [h3, h6]; intro h9; rw [h9] at hl'; simp at hl'; omega), if_pos ⟨by omega, h8.2⟩]
              have e6 : ((n : Int) == 0) = true := by simp; omega
              rw [HE.out]
              obtain rfl := h8.2
              clear hl hl' h1 h2 h3 h6 h7 h8 N1 N2
              go_enter Tryz.func73, Tryz.ntmps73
              go_wp2_with fail
              refine (ratio_long A _ c _).mono ?_
              rintro e w1 ⟨rfl, rfl⟩
              go_wp2_with fail
              refine (ratio_long A' _ c' _).mono ?_
              rintro e w1 ⟨rfl, rfl⟩
              go_wp2_with fail
              refine (nat_Check A _ c _ _ Hh).mono ?_
              rintro e w1 ⟨rfl, n1, rfl⟩
              rw [e1.out]
              go_wp2_with fail
              refine (nat_Check A' _ c' _ _ (Hh'.drewN _)).mono ?_
              rintro e w1 ⟨rfl, n2, rfl⟩
              rw [e2.out]
              go_wp2
              go_ret
              exact ⟨rfl, below_drewN ((Below.refl _ _).alloc (Nat.le_refl _) _) _⟩
            · have HE : chkR g l l' = cop (val l) (val l') := by
                unfold chkR; rw [if_neg (by omega), if_neg (by simp [h3, h6]; intro h9; rw [h9] at hl'; simp at hl'; omega), if_neg (fun h => h8 ⟨by omega, h.2⟩)]
              rw [HE]
              have w1 := wds_val N1
              have w2 := wds_val N2
              have m1 : n = wl (val l) := by rw [wl, w1]; omega
              have m2 : n' = wl (val l') := by rw [wl, w2]; omega
              rw [← w1] at h
              rw [← w2] at h'
              clear w1 w2 Hh Hh' e1 e2 e3 e4 e5 N1 N2 HE hl hl'
              subst m1 m2
              exact ratio_Check_ok g A A' c c' _ _ w h h' (by omega) (by omega) (by omega) (fun e => by cases g; rfl; exact absurd ⟨e, rfl⟩ h8)
        · have e2 : Hid (chkN l' = 11) := by show chkN l' = 11; unfold chkN; rw [if_neg (by omega), if_neg h6]
          have HE : Hid (chkR g l l' = 11) := by show chkR g l l' = 11; unfold chkR; rw [if_neg (by omega), if_pos (.inr (.inl (by simpa using h6)))]
          rw [HE.out]
          clear hl hl' h1 h2 h3 h6
          go_enter Tryz.func73, Tryz.ntmps73
          go_wp2_with fail
          refine (ratio_long A _ c _).mono ?_
          rintro e w1 ⟨rfl, rfl⟩
          go_wp2_with fail
          refine (ratio_long A' _ c' _).mono ?_
          rintro e w1 ⟨rfl, rfl⟩
          go_wp2_with fail
          refine (nat_Check A _ c _ _ Hh).mono ?_
          rintro e w1 ⟨rfl, n1, rfl⟩
          rw [e1.out]
          go_wp2_with fail
          refine (nat_Check A' _ c' _ _ (Hh'.drewN _)).mono ?_
          rintro e w1 ⟨rfl, n2, rfl⟩
          rw [e2.out]
          go_wp2
          go_ret
          exact ⟨rfl, below_drewN ((Below.refl _ _).alloc (Nat.le_refl _) _) _⟩
      · have e1 : Hid (chkN l = 11) := by show chkN l = 11; unfold chkN; rw [if_neg (by omega), if_neg h3]
        have HE : Hid (chkR g l l' = 11) := by show chkR g l l' = 11; unfold chkR; rw [if_neg (by omega), if_pos (.inl (by simpa using h3))]
        rw [HE.out]
        clear hl hl' h1 h2 h3
        go_enter Tryz.func73, Tryz.ntmps73
        go_wp2_with fail
        refine (ratio_long A _ c _).mono ?_
        rintro e w1 ⟨rfl, rfl⟩
        go_wp2_with fail
        refine (ratio_long A' _ c' _).mono ?_
        rintro e w1 ⟨rfl, rfl⟩
        go_wp2_with fail
        refine (nat_Check A _ c _ _ Hh).mono ?_
        rintro e w1 ⟨rfl, n1, rfl⟩
        rw [e1.out]
        go_wp2
        go_ret
        exact ⟨rfl, below_drewN ((Below.refl _ _).alloc (Nat.le_refl _) _) _⟩
end Go.Proofs.YtcbkijeonilcjaaGreat

/- The reference of layer 1: numbers of 64 bits, one. -/
namespace Go.Proofs.YtcbkijeonilcjaaGreat
open Go.RowKit

theorem ref01_Of (x : Nat) (w : World) (hx : x < 18446744073709551616) :
    Calls Tryz.prog 322 #[.int .u64 x] w fun e w' => ∃ v, e = .returned v ∧ Own 116 w' w.heap.size v (wds x) ∧ Below w.heap.size w w' := by
  have hA : Ar 116 (w.alloc (.cells #[.int .u32 ((x : Int) % 4294967296), .int .u32 ((x : Int) / 4294967296)] 116)) w.heap.size 0 2 2 [x % 4294967296, x / 4294967296] :=
    ⟨_, heap_alloc_new w _, by simp, by omega, ⟨by omega, by unfold maxLen; omega⟩, rfl, lim_two x hx, fun j hj => by
      rcases (by omega : j = 0 ∨ j = 1) with rfl | rfl
      · simp [wd]
      · simp [wd]⟩
  have hB : Below w.heap.size w (w.alloc (.cells #[.int .u32 ((x : Int) % 4294967296), .int .u32 ((x : Int) / 4294967296)] 116)) := (Below.refl _ _).alloc (Nat.le_refl _) _
  go_enter Tryz.func322, Tryz.ntmps322
  go_wp2_with fail
  refine (ref01_Trim _ 2 2 _ _ hA.rd).mono ?_
  rintro e w1 ⟨v, rfl, hO, hB1⟩
  rw [val_two x] at hO
  go_wp2
  go_ret
  exact ⟨_, rfl, hO.mono (by simp), hB.trans (hB1.mono (by simp))⟩

theorem ref03_one (w : World) :
    Calls Tryz.prog 219 #[] w fun e w' => ∃ A c, e = .returned (.slice A 1 c) ∧ Rd w' A 1 c [1] ∧ Below w.heap.size w w' := by
  have h := rd_one 116 w
  go_enter Tryz.func219, Tryz.ntmps219
  go_wp2
  go_ret
  exact ⟨_, _, rfl, h, (Below.refl _ _).alloc (Nat.le_refl _) _⟩

theorem ref01_both (A A' : Option Addr) (n n' c c' : Nat) (l l' : List Nat) (w : World) (h : Rd w A n c l) (h' : Rd w A' n' c' l') :
    Calls Tryz.prog 286 #[.slice A n c, .slice A' n' c'] w fun e w' => e = .returned (.int .i64 (if chkN l = 0 then chkN l' else chkN l)) ∧ Drn w w' := by
  obtain ⟨q, hq⟩ : ∃ q, q = if chkN l = 0 then chkN l' else chkN l := ⟨_, rfl⟩
  rw [← hq]
  have HQ := Lib.hid hq
  clear hq
  go_enter Tryz.func286, Tryz.ntmps286
  go_wp2_with fail
  refine (ref01_Check A _ c _ _ h).mono ?_
  rintro e w1 ⟨rfl, n1, rfl⟩
  by_cases h0 : chkN l = 0
  · have HE : Hid (q = chkN l') := by show q = chkN l'; rw [HQ.out, if_pos h0]
    rw [h0]
    clear h0
    go_wp2_with fail
    refine (ref01_Check A' _ c' _ _ (h'.drewN _)).mono ?_
    rintro e w1 ⟨rfl, n2, rfl⟩
    go_wp2
    go_ret
    exact ⟨ret_int HE.out.symm, (by first | exact ⟨_, rfl⟩ | exact (drn1 _ _).step _ | exact ((drn1 _ _).step _).step _ | (repeat' (first | exact Drn.refl _ | apply Drn.step)))⟩
  · have HE : Hid (q = chkN l) := by show q = chkN l; rw [HQ.out, if_neg h0]
    have e1 : (chkN l != 0) = true := by simp [h0]
    clear h0
    go_wp2_with fail
    go_ret
    exact ⟨ret_int HE.out.symm, (by first | exact ⟨_, rfl⟩ | exact (drn1 _ _).step _ | exact ((drn1 _ _).step _).step _ | (repeat' (first | exact Drn.refl _ | apply Drn.step)))⟩

theorem ref01_told (A : Option Addr) (n c : Nat) (w : World) (hn : n ≤ 8192) :
    Calls Tryz.prog 287 #[.slice A n c] w fun e w' => e = .returned (.tuple #[.slice A n c, .int .i64 0]) ∧ w' = w := by
  have e1 : ((8192 : Int) < (n : Int)) = False := by simp; omega
  go_enter Tryz.func287, Tryz.ntmps287
  go_wp2
  go_ret2
  exact ⟨rfl, rfl⟩
end Go.Proofs.YtcbkijeonilcjaaGreat

/- The reference of layer 1: by one word. -/
namespace Go.Proofs.YtcbkijeonilcjaaGreat
open Go.RowKit

def smallAt2 (x d k r : Nat) (l : List Nat) : Prop := r < d ∧ x / 4294967296 ^ k = d * val (l.drop k) + r
theorem smallAt2_start {x d n : Nat} {l : List Nat} (hd : 0 < d) (hx : wl x ≤ n) (hl : l.length = n) : smallAt2 x d n 0 l :=
  ⟨hd, by rw [List.drop_eq_nil_of_le (by omega), Nat.div_eq_of_lt (wl_le.1 (by omega))]; simp [val]⟩
theorem smallAt2_step {x d k r : Nat} {l : List Nat} (h : smallAt2 x d (k + 1) r l) (hk : k < l.length) :
    smallAt2 x d k ((r * 4294967296 + wd (wds x) k) % d) (l.set k ((r * 4294967296 + wd (wds x) k) / d)) := by
  obtain ⟨hr, h⟩ := h
  refine ⟨Nat.mod_lt _ (by omega), ?_⟩
  rw [div_step, h, val_drop_succ (l.set k _) k, wd_set_eq _ hk, List.drop_set_of_lt (by omega), ← wd_wds]
  have e := Nat.div_add_mod (r * 4294967296 + wd (wds x) k) d
  generalize (r * 4294967296 + wd (wds x) k) / d = q at *
  generalize (r * 4294967296 + wd (wds x) k) % d = t at *
  grind
theorem smallAt2_end {x d r : Nat} {l : List Nat} (h : smallAt2 x d 0 r l) : val l = x / d ∧ r = x % d := by
  obtain ⟨hr, h⟩ := h
  simp at h
  rw [h]
  constructor
  · rw [Nat.mul_add_div (by omega), Nat.div_eq_of_lt hr]; omega
  · rw [Nat.mul_add_mod, Nat.mod_eq_of_lt hr]

theorem small_lo' (a r d : Nat) (hr : r < d) (ha : a < 4294967296) : ((r : Int) * 4294967296 + a) / d % 4294967296 = (((r * 4294967296 + a) / d : Nat) : Int) := by
  rw [← small_lo a r d hr ha, Int.add_comm, Int.mul_comm]
theorem small_rem' (a r d : Nat) : ((r : Int) * 4294967296 + a) % d = (((r * 4294967296 + a) % d : Nat) : Int) := by
  rw [← small_rem a r d, Int.add_comm, Int.mul_comm]
set_option maxHeartbeats 1000000 in
theorem ref01_small (A : Option Addr) (c x d : Nat) (w : World) (h : Rd w A (wl x) c (wds x)) (hx : wl x ≤ 1000000) (hd0 : 0 < d) (hd : d < 4294967296) :
    Calls Tryz.prog 321 #[.slice A (wl x) c, .int .u32 d] w fun e w' => ∃ v, e = .returned (.tuple #[v, .int .u32 (x % d : Nat)]) ∧ Own 116 w' w.heap.size v (wds (x / d)) ∧ Below w.heap.size w w' := by
  obtain ⟨i0, hi0, hz0, hz1, hz2⟩ := info_parts u32_info
  have hmk := fun (w : World) => run_make_u32 (P := Tryz.prog) 22 116 i0 Tryz.underlying22 hi0 hz0 hz1 hz2 (wl x) (wl x : Int) (by omega) (by omega) w
  have ha0 : Ar 116 (w.alloc (.cells (zeros (wl x)) 116)) w.heap.size 0 (wl x) (wl x) (List.replicate (wl x) 0) := ar_zeros 116 w (wl x) (by omega)
  have hb0 : Below w.heap.size w (w.alloc (.cells (zeros (wl x)) 116)) := (Below.refl _ _).alloc (Nat.le_refl _) _
  clear hi0 hz0 hz1 hz2
  generalize hg : w.heap.size = g at ha0
  generalize hw0 : w.alloc (.cells (zeros (wl x)) 116) = w0 at ha0 hb0
  go_enter Tryz.func321, Tryz.ntmps321
  go_wp2
  have HW0 := Lib.hid hw0
  have HG := Lib.hid hg
  clear hw0 hg
  go_loopw [7, 8] (fun rv iv wr => ∃ (k r : Nat) (z : Int) (cs : List Nat), iv = .int .i64 z ∧ z + 1 = k ∧ rv = .int .u64 r ∧ k ≤ wl x ∧ smallAt2 x d k r cs ∧ Ar 116 wr g 0 (wl x) (wl x) cs ∧ Mod g 0 (wl x) w0 wr) (fun _ iv _ => (intOf iv + 1).toNat)
  case atStart => exact ⟨wl x, 0, _, _, rfl, by omega, rfl, Nat.le_refl _, smallAt2_start hd0 (Nat.le_refl _) (by simp), ha0, Mod.refl _ _ _ _⟩
  case round =>
    obtain ⟨k, r, z, cs, rfl, hz, rfl, hk, hS, hA, hM⟩ := hrel
    have hr := hS.1
    have R1 := h.mod hb0 hM (Nat.le_of_eq HG.out)
    have HM := Lib.hid hM
    clear hM
    by_cases hlt : 0 < k
    · obtain ⟨k, rfl⟩ : ∃ m, k = m + 1 := ⟨k - 1, by omega⟩
      obtain rfl : z = k := by omega
      clear hz
      obtain ⟨b, o, rfl, hc⟩ := R1.cell (by omega)
      have d1 := hc k (by omega)
      clear hc
      have f1 := hA.cell k (by omega)
      have f2 := hA.free k
      rw [Nat.zero_add] at f1
      have l1 := wd_lt R1.lim k
      have hst := smallAt2_step hS (by have := hA.len; omega)
      have hA2 := hA.set k _ (by omega) (small_word hr l1)
      rw [Nat.zero_add] at hA2
      have HS2 := Lib.hid (And.intro hst hA2)
      clear hst hA2 hS
      go_wp2
      obtain ⟨hst, hA2⟩ := HS2.out
      first
        | rw [small_lo' _ _ _ hr l1, small_rem']
      go_roundw
      case rel => exact ⟨k, _, _, _, rfl, by omega, rfl, by omega, hst, hA2, HM.out.setCell k _ (by omega)⟩
      case measure => simp [intOf]
    · obtain rfl : k = 0 := by omega
      obtain ⟨hv, hr2⟩ := smallAt2_end hS
      have hz2 : z < 0 := by omega
      clear hz
      have hmod : (r : Int) % 4294967296 = r := by omega
      have HR := Lib.hid hr2
      clear hr2
      go_wp2_with fail
      refine (ref01_Trim _ _ _ _ _ hA.rd).mono ?_
      rintro e w1 ⟨v, rfl, hO, hB1⟩
      rw [hv] at hO
      go_wp2
      go_ret2
      have hbx : Below g w wr := by
        have := (HM.out.below _ (Nat.le_refl _))
        rw [HG.out] at hb0
        exact hb0.trans this
      have hsz : g ≤ wr.heap.size := Nat.le_of_lt hA.lt
      exact ⟨_, by rw [HR.out]; rfl, hO.mono hsz, hbx.trans (hB1.mono hsz)⟩
end Go.Proofs.YtcbkijeonilcjaaGreat

/- The reference of layer 1: comparing. -/
namespace Go.Proofs.YtcbkijeonilcjaaGreat
open Go.RowKit

theorem wd_of_val {l : List Nat} (hl : lim l) (k : Nat) : val l / 4294967296 ^ k % 4294967296 = wd l k := by
  induction l generalizing k with
  | nil => simp [val, wd]
  | cons x xs ih =>
    have hx : x < 4294967296 := hl x (by simp)
    have hxs : lim xs := fun y hy => hl y (by simp [hy])
    cases k with
    | zero =>
      rw [Nat.pow_zero, Nat.div_one]
      simp only [val, wd, List.getD_cons_zero]; omega
    | succ k =>
      rw [Nat.pow_succ, Nat.mul_comm, ← Nat.div_div_eq_div_mul]
      have : val (x :: xs) / 4294967296 = val xs := by simp only [val]; omega
      rw [this, ih hxs k]; simp [wd]
theorem wd_wds_val {l : List Nat} (hl : lim l) (k : Nat) : wd (wds (val l)) k = wd l k := by rw [wd_wds, wd_of_val hl]
theorem wl_val_le {l : List Nat} (hl : lim l) : wl (val l) ≤ l.length := by rw [← tl_len hl]; exact tl_le _ _

set_option maxHeartbeats 1000000 in
theorem ref01_Compare (A A' : Option Addr) (n c n' c' : Nat) (l l' : List Nat) (w : World) (h : Rd w A n c l) (h' : Rd w A' n' c' l') :
    Calls Tryz.prog 220 #[.slice A n c, .slice A' n' c'] w fun e w' => e = .returned (.int .i64 (cmpN (val l) (val l'))) ∧ Drn w w' := by
  have hb := h.big.1
  have hb' := h'.big.1
  obtain ⟨m, hm⟩ : ∃ m : Nat, max (n : Int) (n' : Int) = (m : Int) := ⟨max n n', by omega⟩
  have HM : Hid (n ≤ m ∧ n' ≤ m ∧ m ≤ 35184372087808) := by show _ ∧ _ ∧ _; omega
  have HL : Hid (eqAt (val l) (val l') m) := eqAt_top (Nat.le_trans (wl_val_le h.lim) (by have := h.len; have := HM.out; omega)) (Nat.le_trans (wl_val_le h'.lim) (by have := h'.len; have := HM.out; omega))
  have hmb : m ≤ 35184372087808 := HM.out.2.2
  go_enter Tryz.func220, Tryz.ntmps220
  go_wp2_with fail
  have HMM := Lib.hid hm
  clear hm
  go_loopw [6] (fun i wr => ∃ (k : Nat) (z : Int), k ≤ m ∧ i = .int .i64 z ∧ z + 1 = k ∧ eqAt (val l) (val l') k ∧ Drn w wr) (fun i _ => (intOf i + 1).toNat)
  case atStart => exact ⟨m, _, Nat.le_refl _, rfl, by omega, HL.out, Drn.refl _⟩
  case round =>
    obtain ⟨k, z, hk, rfl, hz, hE, n3, rfl⟩ := hrel
    by_cases hlt : 0 < k
    · obtain ⟨k, rfl⟩ : ∃ m, k = m + 1 := ⟨k - 1, by omega⟩
      obtain rfl : z = k := by omega
      clear hz
      have HE := Lib.hid hE
      have HW := Lib.hid (And.intro (wd_wds_val h.lim k) (wd_wds_val h'.lim k))
      clear hE
      go_wp2_with fail
      refine (ref01_word A n c l k _ (h.drewN _) (by omega)).mono ?_
      rintro e w1 ⟨rfl, n4, rfl⟩
      go_wp2_with fail
      refine (ref01_word A' n' c' l' k _ (h'.drewN _) (by omega)).mono ?_
      rintro e w1 ⟨rfl, n5, rfl⟩
      have l1 := wd_lt h.lim k
      have l2 := wd_lt h'.lim k
      by_cases hd : wd l k < wd l' k
      · have HR : Hid (cmpN (val l) (val l') = -1) := cmpN_lt (eqAt_lt HE.out (by rw [HW.out.1, HW.out.2]; exact hd))
        have hd2 : decide (wd l k < wd l' k) = true := by simp [hd]
        go_wp2_with fail
        go_ret
        exact ⟨ret_int HR.out.symm, (by first | exact ⟨_, rfl⟩ | exact (drn1 _ _).step _ | exact ((drn1 _ _).step _).step _ | (repeat' (first | exact Drn.refl _ | apply Drn.step)))⟩
      by_cases hd' : wd l' k < wd l k
      · have HR : Hid (cmpN (val l) (val l') = 1) := cmpN_gt (eqAt_lt HE.out.symm (by rw [HW.out.1, HW.out.2]; exact hd'))
        go_wp2_with fail
        go_ret
        exact ⟨ret_int HR.out.symm, (by first | exact ⟨_, rfl⟩ | exact (drn1 _ _).step _ | exact ((drn1 _ _).step _).step _ | (repeat' (first | exact Drn.refl _ | apply Drn.step)))⟩
      · have HR : Hid (eqAt (val l) (val l') k) := eqAt_step HE.out (by rw [HW.out.1, HW.out.2]; omega)
        go_wp2_with fail
        go_roundw
        case rel => exact ⟨k, _, by omega, rfl, by omega, HR.out, (by first | exact ⟨_, rfl⟩ | exact (drn1 _ _).step _ | exact ((drn1 _ _).step _).step _ | (repeat' (first | exact Drn.refl _ | apply Drn.step)))⟩
        case measure => simp [intOf]
    · obtain rfl : k = 0 := by omega
      have HR : Hid (cmpN (val l) (val l') = 0) := by show cmpN _ _ = 0; rw [eqAt_zero hE, cmpN_eq]
      clear hE
      go_wp2_with fail
      go_ret
      exact ⟨ret_int HR.out.symm, (by first | exact ⟨_, rfl⟩ | exact (drn1 _ _).step _ | exact ((drn1 _ _).step _).step _ | (repeat' (first | exact Drn.refl _ | apply Drn.step)))⟩
end Go.Proofs.YtcbkijeonilcjaaGreat
