/- Package nat: bits, shifts up, trimmed copies. -/
import Derived.Test.YtcbkijeonilcjaaGreatHC5
import Derived.Deep.QuietTactic
import Derived.BigQuiet
namespace Go.Proofs.YtcbkijeonilcjaaGreat
open Go.RowKit

theorem Own.cut {T : TypeId} {w : World} {base n c x : Nat} {A : Option Addr} {l : List Nat} (h : Own T w base (.slice A n c) l) (hx : val l = x) : Own T w base (.slice A (wl x) c) (wds x) := by
  subst hx
  rcases h with ⟨e, rfl⟩ | ⟨b, o, n', c', e, hb, hA⟩
  · injection e with e1 e2 e3
    subst e1; subst e3
    exact .inl ⟨by rw [show val [] = 0 from rfl, wl_zero], by rw [show val [] = 0 from rfl, wds_zero]⟩
  · injection e with e1 e2 e3
    subst e1; subst e2; subst e3
    exact .inr ⟨b, o, _, _, rfl, hb, hA.cut⟩

theorem nat_Bits (A : Option Addr) (n c x : Nat) (l : List Nat) (w : World) (h : Rd w A n c l) (hx : val l = x) (hw : wl x ≤ 100000) :
    Calls Tryz.prog 269 #[.slice A n c] w fun e w' => e = .returned (.int .i64 (blen x : Nat)) ∧ Drn w w' := by
  have H := h.cut
  rw [hx] at H
  have HX := Lib.hid hx
  clear hx
  rcases Nat.eq_zero_or_pos x with h0 | h0
  · have hz : Hid (blen x = 0) := by show blen x = 0; rw [h0]; rfl
    have e1 : ((wl x : Int) == 0) = true := by rw [h0, wl_zero]; rfl
    clear h0
    rw [hz.out]
    go_enter Tryz.func269, Tryz.ntmps269
    go_wp2_with fail
    refine (nat_cut' A n c x l _ h HX.out).mono ?_
    rintro e w1 ⟨rfl, n1, rfl⟩
    go_wp2
    go_ret
    exact ⟨rfl, (by first | exact ⟨_, rfl⟩ | exact (drn1 _ _).step _ | exact ((drn1 _ _).step _).step _ | (repeat' (first | exact Drn.refl _ | apply Drn.step)))⟩
  · have hw0 : 0 < wl x := by
      rcases Nat.eq_zero_or_pos (wl x) with h1 | h1
      · have := wl_eq_zero.1 h1; omega
      · exact h1
    have e1 : ((wl x : Int) == 0) = false := by simp; omega
    obtain ⟨b, o, rfl, hc⟩ := H.cell hw0
    have d1 := hc (wl x - 1) (by omega)
    have l1 := wd_lt H.lim (wl x - 1)
    clear hc
    have hbl := blen_top (x := x) (by omega)
    have hle := blen_le_of_lt (x := wd (wds x) (wl x - 1)) (n := 32) l1
    have HB : Hid ((32 : Int) * ((wl x : Int) - 1) + (blen (wd (wds x) (wl x - 1)) : Nat) = (blen x : Nat)) := by
      show (32 : Int) * ((wl x : Int) - 1) + (blen (wd (wds x) (wl x - 1)) : Nat) = (blen x : Nat)
      omega
    clear hbl
    go_enter Tryz.func269, Tryz.ntmps269
    go_wp2_with fail
    refine (nat_cut' _ n c x l _ h HX.out).mono ?_
    rintro e w1 ⟨rfl, n1, rfl⟩
    go_wp2_with fail
    refine (bits_Len32 _ _ (by omega) (by omega)).mono ?_
    rintro e w1 ⟨rfl, rfl⟩
    rw [Int.toNat_natCast, bitLen_eq _ l1]
    generalize hq : blen (wd (wds x) (wl x - 1)) = q at *
    clear hq
    go_wp2
    go_ret
    exact ⟨ret_int (by have := HB.out; omega), (by first | exact ⟨_, rfl⟩ | exact (drn1 _ _).step _ | exact ((drn1 _ _).step _).step _ | (repeat' (first | exact Drn.refl _ | apply Drn.step)))⟩

theorem run_make_cap {P : Program} (t e : TypeId) (i : TypeInfo) (ht : P.underlying t = some (.slice e)) (hi : P.info? e = some i) (hz : i.zero = some (.int .u32 0)) (hs : i.size = 1) (hb : i.bytes = 4) (n m : Nat) (z y : Int) (hzn : z = n) (hym : y = m) (hnm : n ≤ m) (hm : m ≤ 70368744177664) (w : World) :
    (Instr.makeSlice t (.int .i64 z) (.int .i64 y)).run P w = .ok (.slice (some ⟨w.heap.size, 0, none⟩) n m) (w.alloc (.cells (zeros m) e)) := by
  subst hzn; subst hym
  have hbb : (i.bytes : Int) * (m : Int) ≤ 281474976710656 := by rw [hb]; omega
  have hr := run_make (P := P) w t e i (.int .u32 0) ht hi hz .i64 .i64 n m (by omega) (by omega) hbb (by omega)
  simp only [Int.toNat_natCast] at hr
  rw [hs, Nat.mul_one] at hr
  rw [hr]
  simp only [Value.cells, madeCells_one]
  rfl
theorem row_zeros (T : TypeId) (w : World) (base n m : Nat) (hnm : n ≤ m) (hm : m ≤ 35184372087808) (hb : base ≤ w.heap.size) :
    (w.alloc (.cells (zeros m) T)).ownsRow base T 1 (.slice (some ⟨w.heap.size, 0, none⟩) n m) n (u32s (List.replicate n 0)) :=
  ⟨by simp [u32s], .inr ⟨_, m, _, rfl, hb, heap_alloc_new w _, hnm, by unfold maxLen; omega, by simp [zeros], by simp [zeros, u32s, List.take_replicate, Nat.min_eq_left hnm]⟩⟩

theorem u32s_append (a b : List Nat) : u32s (a ++ b) = u32s a ++ u32s b := by simp [u32s]
theorem row_below {w w1 : World} {base : Nat} {e : TypeId} {size : Nat} {v : Value} {n : Nat} {xs : List Value} (h : w.ownsRow base e size v n xs) (hv : ∀ a, v.ownBlock = some a → a < w.heap.size) (hb : Below w.heap.size w w1) : w1.ownsRow base e size v n xs := by
  refine ⟨h.1, ?_⟩
  rcases h.2 with ⟨rfl, rfl⟩ | ⟨g, cap, cur, rfl, hg, hh, hr⟩
  · exact .inl ⟨rfl, rfl⟩
  · exact .inr ⟨g, cap, cur, rfl, hg, by rw [hb.block g (hv g rfl)]; exact hh, hr⟩

theorem shift_val (x n : Nat) {l : List Nat} (h : val l = x * 2 ^ (n % 32)) : val (List.replicate (n / 32) 0 ++ l) = x * 2 ^ n := by
  rw [val_append, val_replicate, List.length_replicate, h, Nat.zero_add, show (4294967296 : Nat) = 2 ^ 32 from rfl, ← Nat.pow_mul, Nat.mul_left_comm, ← Nat.pow_add]
  congr 2
  omega
theorem blen_mul_pow (x n : Nat) (h : x ≠ 0) : blen (x * 2 ^ n) = blen x + n := by
  obtain ⟨h1, h2⟩ := blen_le h
  have h3 := blen_lt x
  obtain ⟨m, hm⟩ : ∃ m, blen x = m + 1 := ⟨_, (Nat.sub_add_cancel h2).symm⟩
  rw [hm] at h1 h3 ⊢
  rw [show m + 1 + n = (m + n) + 1 from by omega]
  apply blen_unique
  · rw [Nat.pow_add]; exact Nat.mul_le_mul_right _ h1
  · rw [show m + n + 1 = (m + 1) + n from by omega, Nat.pow_add]; exact Nat.mul_lt_mul_of_pos_right h3 (Nat.pow_pos (by omega))
theorem wl_blen (x n : Nat) : wl x ≤ n ↔ blen x ≤ 32 * n := by
  rw [wl_le, show (4294967296 : Nat) = 2 ^ 32 from rfl, ← Nat.pow_mul]
  constructor
  · exact blen_le_of_lt
  · intro h
    exact Nat.lt_of_lt_of_le (blen_lt x) (Nat.pow_le_pow_right (by omega) h)

set_option maxRecDepth 100000 in
/-- times a power of two, the answer not too long -/
theorem nat_Shift (A : Option Addr) (c x n : Nat) (w : World) (h : Rd w A (wl x) c (wds x)) (hx : wl x ≤ 8192) (hn : n ≤ 262144) (hs : blen x + n ≤ 262144) :
    Calls Tryz.prog 229 #[.slice A (wl x) c, .int .i64 n] w fun e w' => ∃ v, e = .returned (.tuple #[v, .int .i64 0]) ∧ Own 116 w' w.heap.size v (wds (x * 2 ^ n)) ∧ Below w.heap.size w w' := by
  have e0 : Hid (chkN (wds x) = 0) := chkN_wds hx
  have e2 : ((n : Int) < 0) = False := by simp
  rcases Nat.eq_zero_or_pos x with h0 | h0
  · have hz : Hid (wds (x * 2 ^ n) = []) := by show wds (x * 2 ^ n) = []; rw [h0, Nat.zero_mul, wds_zero]
    have e1 : ((wl x : Int) == 0) = true := by rw [h0, wl_zero]; rfl
    clear h0
    go_enter Tryz.func229, Tryz.ntmps229
    go_wp2_with fail
    refine (nat_Check A _ c _ _ h).mono ?_
    rintro e w1 ⟨rfl, n1, rfl⟩
    rw [e0.out]
    go_wp2
    go_ret2
    exact ⟨_, rfl, .inl ⟨rfl, hz.out⟩, below_drewN (Below.refl _ _) _⟩
  · have hw0 : 0 < wl x := by
      rcases Nat.eq_zero_or_pos (wl x) with h1 | h1
      · have := wl_eq_zero.1 h1; omega
      · exact h1
    have e1 : ((wl x : Int) == 0) = false := by simp; omega
    have hxx : Hid (x ≠ 0 ∧ 0 < x) := ⟨by omega, h0⟩
    clear h0
    obtain ⟨i0, hi0, hz0, hz1, hz2⟩ := info_parts u32_info
    have hmk := fun (w : World) => run_make_cap (P := Tryz.prog) 22 116 i0 Tryz.underlying22 hi0 hz0 hz1 hz2 (n / 32) (n / 32 + wl x + 1) ((n : Int) / 32) ((n : Int) / 32 + wl x + 1) (by omega) (by omega) (by omega) (by omega) w
    have HB : Hid (wl (x * 2 ^ n) ≤ 8192) := by
      show wl (x * 2 ^ n) ≤ 8192
      rw [wl_blen, blen_mul_pow x n hxx.out.1]; omega
    go_enter Tryz.func229, Tryz.ntmps229
    go_wp2_with fail
    refine (nat_Check A _ c _ _ h).mono ?_
    rintro e w1 ⟨rfl, n1, rfl⟩
    rw [e0.out]
    go_wp2_with fail
    refine (nat_Bits A _ c x _ _ (h.drewN _) (val_wds x) (by omega)).mono ?_
    rintro e w1 ⟨rfl, n2, rfl⟩
    rw [World.drewN_drewN]
    have HR := Lib.hid (row_zeros 116 (w.drewN (n1 + n2)) w.heap.size (n / 32) (n / 32 + wl x + 1) (by omega) (by omega) (Nat.le_refl _))
    have Hh := (h.drewN (n1 + n2)).below ((Below.refl _ _).alloc (Nat.le_refl _) (.cells (zeros (n / 32 + wl x + 1)) 116))
    have HBB := Lib.hid (show Below w.heap.size w ((w.drewN (n1 + n2)).alloc (.cells (zeros (n / 32 + wl x + 1)) 116)) from (below_drewN (Below.refl _ _) _).alloc (Nat.le_refl _) _)
    go_wp2_with fail
    rw [show (n : Int) % 32 = ((n % 32 : Nat) : Int) from by omega]
    refine (nat_up A c x (n % 32) _ Hh (by omega) (Nat.mod_lt _ (by omega))).mono ?_
    rintro e w2 ⟨b2, l2, rfl, hb2, hA2, hv2, hB2⟩
    have hBW2 : Below w.heap.size w w2 := HBB.out.trans (hB2.mono HBB.out.size)
    have HR2 := Lib.hid (row_below HR.out (fun a h => by cases h; simp) hB2)
    have HV := Lib.hid (shift_val x n hv2)
    have HL := Lib.hid (lim_append (lim_replicate (n / 32)) hA2.lim)
    clear hv2
    go_wp2_with (at_builtin; refine wpList_append_rd _ rfl (.tmp 55) (.tmp 60) 22 rfl w.heap.size 116 i0 _ Tryz.underlying22 hi0 hz0 hz1 hz2 rfl (.slice (some ⟨w.heap.size, 0, none⟩) (n / 32) (n / 32 + wl x + 1)) (n / 32) _ rfl HR2.out (some ⟨b2, 0, none⟩) _ _ l2 rfl hA2.rd (by omega) (hBW2.size) ?_; intro v1 w3 hown hgr)
    have hO3 : Own 116 w3 w.heap.size v1 (List.replicate (n / 32) 0 ++ l2) := Own.of_row (n := n / 32 + (wl x + 1)) (by rw [u32s_append]; exact hown) HL.out (by omega)
    have HB3 := Lib.hid (hBW2.grown hgr hBW2.size (fun k hk => by simp [Value.ownBlock] at hk; omega))
    clear hown hgr
    obtain ⟨A3, n3, c3, rfl, hR3⟩ := hO3.rd
    go_wp2_with fail
    refine (nat_told A3 _ _ (x * 2 ^ n) _ _ hR3 HV.out HB.out).mono ?_
    rintro e w4 ⟨rfl, n4, rfl⟩
    go_wp2
    go_ret2
    exact ⟨_, rfl, (hO3.cut HV.out).below (below_drewN (Below.refl _ _) _), below_drewN HB3.out _⟩

/-- slices.Clone of what cut leaves -/
theorem nat_Trim (A : Option Addr) (n c x : Nat) (l : List Nat) (w : World) (h : Rd w A n c l) (hx : val l = x) :
    Calls Tryz.prog 340 #[.slice A n c] w fun e w' => ∃ v, e = .returned v ∧ Own 116 w' w.heap.size v (wds x) ∧ Below w.heap.size w w' := by
  have H := h.cut
  rw [hx] at H
  have HX := Lib.hid hx
  clear hx
  go_enter Tryz.func340, Tryz.ntmps340
  go_wp2_with fail
  refine (nat_cut' A n c x l _ h HX.out).mono ?_
  rintro e w1 ⟨rfl, n1, rfl⟩
  go_wp2_with fail
  refine (clone A _ c _ _ (H.drewN _)).mono ?_
  rintro e w2 ⟨v1, rfl, hO1, hB1⟩
  go_wp2
  go_ret
  exact ⟨_, rfl, hO1, (below_drewN (Below.refl _ _) n1).trans hB1⟩
end Go.Proofs.YtcbkijeonilcjaaGreat

/- The reference of layer 1: words, looks. -/
namespace Go.Proofs.YtcbkijeonilcjaaGreat
open Go.RowKit

set_option maxHeartbeats 400000 in
theorem ref01_Check (A : Option Addr) (n c : Nat) (l : List Nat) (w : World) (h : Rd w A n c l) :
    Calls Tryz.prog 325 #[.slice A n c] w fun e w' => e = .returned (.int .i64 (chkN l)) ∧ Drn w w' := by
  have hl := h.len
  subst hl
  have hb := h.big.1
  have hnc := h.cap
  by_cases h1 : 8192 < l.length
  · go_enter Tryz.func325, Tryz.ntmps325
    go_wp2
    go_ret
    exact ⟨ret_int (by rw [chkN, if_pos h1]), (by first | exact ⟨_, rfl⟩ | exact (drn1 _ _).step _ | exact ((drn1 _ _).step _).step _ | (repeat' (first | exact Drn.refl _ | apply Drn.step)))⟩
  by_cases h2 : 0 < l.length
  · obtain ⟨b, o, rfl, hc⟩ := h.cell h2
    have d1 := hc (l.length - 1) (by omega)
    have l1 := wd_lt h.lim (l.length - 1)
    clear hc
    by_cases h3 : wd l (l.length - 1) = 0
    · have hz : (((wd l (l.length - 1) : Nat) : Int) == 0) = true := by rw [h3]; rfl
      have hn : Hid (nfB l = false) := by show nfB l = false; unfold nfB; rw [h3]; simp; intro e; rw [e] at h2; simp at h2
      clear h3
      go_enter Tryz.func325, Tryz.ntmps325
      go_wp2
      go_ret
      exact ⟨ret_int (by rw [chkN, if_neg h1, hn.out]; rfl), (by first | exact ⟨_, rfl⟩ | exact (drn1 _ _).step _ | exact ((drn1 _ _).step _).step _ | (repeat' (first | exact Drn.refl _ | apply Drn.step)))⟩
    · have hz : (((wd l (l.length - 1) : Nat) : Int) == 0) = false := by simp; omega
      have hn : Hid (nfB l = true) := by show nfB l = true; unfold nfB; simp [h3]
      clear h3
      go_enter Tryz.func325, Tryz.ntmps325
      go_wp2
      go_ret
      exact ⟨ret_int (by rw [chkN, if_neg h1, hn.out]; rfl), (by first | exact ⟨_, rfl⟩ | exact (drn1 _ _).step _ | exact ((drn1 _ _).step _).step _ | (repeat' (first | exact Drn.refl _ | apply Drn.step)))⟩
  · have hn : Hid (nfB l = true) := by show nfB l = true; unfold nfB; rw [show l.length = 0 from by omega]; rfl
    go_enter Tryz.func325, Tryz.ntmps325
    go_wp2
    go_ret
    exact ⟨ret_int (by rw [chkN, if_neg h1, hn.out]; rfl), (by first | exact ⟨_, rfl⟩ | exact (drn1 _ _).step _ | exact ((drn1 _ _).step _).step _ | (repeat' (first | exact Drn.refl _ | apply Drn.step)))⟩


theorem ref01_word (A : Option Addr) (n c : Nat) (l : List Nat) (i : Nat) (w : World) (h : Rd w A n c l) (hi : i ≤ 35184372087808) :
    Calls Tryz.prog 288 #[.slice A n c, .int .i64 i] w fun e w' => e = .returned (.int .u32 (wd l i : Nat)) ∧ Drn w w' := by
  have hb := h.big.1
  by_cases hlt : i < n
  · obtain ⟨b, o, rfl, hc⟩ := h.cell (by omega)
    have d1 := hc i hlt
    have l1 := wd_lt h.lim i
    clear hc
    go_enter Tryz.func288, Tryz.ntmps288
    go_wp2
    go_ret
    exact ⟨rfl, (by first | exact ⟨_, rfl⟩ | exact (drn1 _ _).step _ | exact ((drn1 _ _).step _).step _ | (repeat' (first | exact Drn.refl _ | apply Drn.step)))⟩
  · have HZ : Hid (wd l i = 0) := wd_out (by have := h.len; omega)
    go_enter Tryz.func288, Tryz.ntmps288
    go_wp2
    go_ret
    exact ⟨ret_int (by rw [HZ.out]; rfl), (by first | exact ⟨_, rfl⟩ | exact (drn1 _ _).step _ | exact ((drn1 _ _).step _).step _ | (repeat' (first | exact Drn.refl _ | apply Drn.step)))⟩

/-- are two lists of words the same? -/
theorem ref03_same (A A' : Option Addr) (n n' c c' : Nat) (l l' : List Nat) (w : World) (h : Rd w A n c l) (h' : Rd w A' n' c' l') :
    Calls Tryz.prog 218 #[.slice A n c, .slice A' n' c'] w fun e w' => e = .returned (.bool (decide (l = l'))) ∧ Drn w w' := by
  have hl := h.len
  have hl' := h'.len
  have hb := h.big.1
  by_cases hn : n = n'
  · subst hn
    have HLL := Lib.hid (And.intro hl hl')
    clear hl hl'
    have e1 : ((n : Int) != (n : Int)) = false := by simp
    go_enter Tryz.func218, Tryz.ntmps218
    go_wp2
    go_loopw [5] (fun iv wr => ∃ k : Nat, iv = .int .i64 k ∧ k ≤ n ∧ (∀ j, j < k → wd l j = wd l' j) ∧ Drn w wr) (fun iv _ => n - (intOf iv).toNat)
    case atStart => exact ⟨0, rfl, Nat.zero_le _, fun j hj => absurd hj (by omega), Drn.refl _⟩
    case round =>
      obtain ⟨k, rfl, hk, hA, m, rfl⟩ := hrel
      have HA := Lib.hid hA
      clear hA
      by_cases hlt : k < n
      · obtain ⟨b, o, rfl, hc⟩ := h.cell (by omega)
        obtain ⟨b', o', rfl, hc'⟩ := h'.cell (by omega)
        have d1 := hc k hlt
        have d2 := hc' k hlt
        have l1 := wd_lt h.lim k
        have l2 := wd_lt h'.lim k
        clear hc hc'
        by_cases hz : wd l k = wd l' k
        · have HN : Hid (∀ j, j < k + 1 → wd l j = wd l' j) := by
            intro j hj
            rcases (by omega : j < k ∨ j = k) with h | rfl
            · exact HA.out j h
            · exact hz
          have e2 : (((wd l k : Nat) : Int) != ((wd l' k : Nat) : Int)) = false := by rw [hz]; simp
          have e3 : (((wd l k : Nat) : Int) = ((wd l' k : Nat) : Int)) = True := by rw [hz]; simp
          have e4 : (wd l k = wd l' k) = True := by simp [hz]
          clear hz
          go_wp2
          go_quiet (fail)
          go_wp2
          go_roundw
          case rel => exact ⟨k + 1, by go_num, by omega, HN.out, (by first | exact ⟨_, rfl⟩ | exact (drn1 _ _).step _ | exact ((drn1 _ _).step _).step _ | (repeat' (first | exact Drn.refl _ | apply Drn.step)))⟩
          case measure => simp [intOf]; omega
        · have HE : Hid (decide (l = l') = false) := by show decide (l = l') = false; rw [decide_eq_false_iff_not]; intro e; exact hz (by rw [e])
          have e2 : (((wd l k : Nat) : Int) != ((wd l' k : Nat) : Int)) = true := by simp; omega
          have e3 : (((wd l k : Nat) : Int) = ((wd l' k : Nat) : Int)) = False := by simp only [eq_iff_iff, iff_false]; omega
          have e4 : (wd l k = wd l' k) = False := by simp [hz]
          clear hz
          go_wp2
          go_quiet (fail)
          go_wp2
          go_ret
          exact ⟨by rw [HE.out]; rfl, (by first | exact ⟨_, rfl⟩ | exact (drn1 _ _).step _ | exact ((drn1 _ _).step _).step _ | (repeat' (first | exact Drn.refl _ | apply Drn.step)))⟩
      · have HE : Hid (decide (l = l') = true) := by
          show decide (l = l') = true
          rw [decide_eq_true_iff]
          apply List.ext_getElem (by have := HLL.out; omega)
          intro j h1 h2
          have := HA.out j (by have := HLL.out; omega)
          simpa [wd, h1, h2] using this
        go_wp2
        go_ret
        exact ⟨by rw [HE.out]; rfl, (by first | exact ⟨_, rfl⟩ | exact (drn1 _ _).step _ | exact ((drn1 _ _).step _).step _ | (repeat' (first | exact Drn.refl _ | apply Drn.step)))⟩
  · have HE : Hid (decide (l = l') = false) := by show decide (l = l') = false; rw [decide_eq_false_iff_not]; intro e; rw [e] at hl; omega
    have e1 : ((n : Int) != (n' : Int)) = true := by simp; omega
    have e2 : ((n : Int) = (n' : Int)) = False := by simp only [eq_iff_iff, iff_false]; omega
    have e3 : (n = n') = False := by simp [hn]
    clear hl hl' hn
    go_enter Tryz.func218, Tryz.ntmps218
    go_wp2
    go_ret
    exact ⟨by rw [HE.out]; rfl, (by first | exact ⟨_, rfl⟩ | exact (drn1 _ _).step _ | exact ((drn1 _ _).step _).step _ | (repeat' (first | exact Drn.refl _ | apply Drn.step)))⟩
/-- are two lists of words the same? -/
theorem kit_SameWords (A A' : Option Addr) (n n' c c' : Nat) (l l' : List Nat) (w : World) (h : Rd w A n c l) (h' : Rd w A' n' c' l') :
    Calls Tryz.prog 157 #[.slice A n c, .slice A' n' c'] w fun e w' => e = .returned (.bool (decide (l = l'))) ∧ Drn w w' := by
  have hl := h.len
  have hl' := h'.len
  have hb := h.big.1
  by_cases hn : n = n'
  · subst hn
    have HLL := Lib.hid (And.intro hl hl')
    clear hl hl'
    have e1 : ((n : Int) != (n : Int)) = false := by simp
    go_enter Tryz.func157, Tryz.ntmps157
    go_wp2
    go_loopw [5] (fun iv wr => ∃ k : Nat, iv = .int .i64 k ∧ k ≤ n ∧ (∀ j, j < k → wd l j = wd l' j) ∧ Drn w wr) (fun iv _ => n - (intOf iv).toNat)
    case atStart => exact ⟨0, rfl, Nat.zero_le _, fun j hj => absurd hj (by omega), Drn.refl _⟩
    case round =>
      obtain ⟨k, rfl, hk, hA, m, rfl⟩ := hrel
      have HA := Lib.hid hA
      clear hA
      by_cases hlt : k < n
      · obtain ⟨b, o, rfl, hc⟩ := h.cell (by omega)
        obtain ⟨b', o', rfl, hc'⟩ := h'.cell (by omega)
        have d1 := hc k hlt
        have d2 := hc' k hlt
        have l1 := wd_lt h.lim k
        have l2 := wd_lt h'.lim k
        clear hc hc'
        by_cases hz : wd l k = wd l' k
        · have HN : Hid (∀ j, j < k + 1 → wd l j = wd l' j) := by
            intro j hj
            rcases (by omega : j < k ∨ j = k) with h | rfl
            · exact HA.out j h
            · exact hz
          have e2 : (((wd l k : Nat) : Int) != ((wd l' k : Nat) : Int)) = false := by rw [hz]; simp
          have e3 : (((wd l k : Nat) : Int) = ((wd l' k : Nat) : Int)) = True := by rw [hz]; simp
          have e4 : (wd l k = wd l' k) = True := by simp [hz]
          clear hz
          go_wp2
          go_quiet (fail)
          go_wp2
          go_roundw
          case rel => exact ⟨k + 1, by go_num, by omega, HN.out, (by first | exact ⟨_, rfl⟩ | exact (drn1 _ _).step _ | exact ((drn1 _ _).step _).step _ | (repeat' (first | exact Drn.refl _ | apply Drn.step)))⟩
          case measure => simp [intOf]; omega
        · have HE : Hid (decide (l = l') = false) := by show decide (l = l') = false; rw [decide_eq_false_iff_not]; intro e; exact hz (by rw [e])
          have e2 : (((wd l k : Nat) : Int) != ((wd l' k : Nat) : Int)) = true := by simp; omega
          have e3 : (((wd l k : Nat) : Int) = ((wd l' k : Nat) : Int)) = False := by simp only [eq_iff_iff, iff_false]; omega
          have e4 : (wd l k = wd l' k) = False := by simp [hz]
          clear hz
          go_wp2
          go_quiet (fail)
          go_wp2
          go_ret
          exact ⟨by rw [HE.out]; rfl, (by first | exact ⟨_, rfl⟩ | exact (drn1 _ _).step _ | exact ((drn1 _ _).step _).step _ | (repeat' (first | exact Drn.refl _ | apply Drn.step)))⟩
      · have HE : Hid (decide (l = l') = true) := by
          show decide (l = l') = true
          rw [decide_eq_true_iff]
          apply List.ext_getElem (by have := HLL.out; omega)
          intro j h1 h2
          have := HA.out j (by have := HLL.out; omega)
          simpa [wd, h1, h2] using this
        go_wp2
        go_ret
        exact ⟨by rw [HE.out]; rfl, (by first | exact ⟨_, rfl⟩ | exact (drn1 _ _).step _ | exact ((drn1 _ _).step _).step _ | (repeat' (first | exact Drn.refl _ | apply Drn.step)))⟩
  · have HE : Hid (decide (l = l') = false) := by show decide (l = l') = false; rw [decide_eq_false_iff_not]; intro e; rw [e] at hl; omega
    have e1 : ((n : Int) != (n' : Int)) = true := by simp; omega
    have e2 : ((n : Int) = (n' : Int)) = False := by simp only [eq_iff_iff, iff_false]; omega
    have e3 : (n = n') = False := by simp [hn]
    clear hl hl' hn
    go_enter Tryz.func157, Tryz.ntmps157
    go_wp2
    go_ret
    exact ⟨by rw [HE.out]; rfl, (by first | exact ⟨_, rfl⟩ | exact (drn1 _ _).step _ | exact ((drn1 _ _).step _).step _ | (repeat' (first | exact Drn.refl _ | apply Drn.step)))⟩
end Go.Proofs.YtcbkijeonilcjaaGreat

/- The reference of layer 1: trimmed copies. -/
namespace Go.Proofs.YtcbkijeonilcjaaGreat
open Go.RowKit

set_option maxRecDepth 100000 in
set_option maxHeartbeats 1000000 in
theorem ref01_Trim (A : Option Addr) (n c : Nat) (l : List Nat) (w : World) (h : Rd w A n c l) :
    Calls Tryz.prog 289 #[.slice A n c] w fun e w' => ∃ v, e = .returned v ∧ Own 116 w' w.heap.size v (wds (val l)) ∧ Below w.heap.size w w' := by
  obtain ⟨i0, hi0, hz0, hz1, hz2⟩ := info_parts u32_info
  have hb := h.big.1
  have hnc := h.cap
  have HW : Hid (wl (val l) = tl l n ∧ Rd w A (wl (val l)) c (wds (val l))) := ⟨by rw [← tl_len h.lim, h.len], h.cut⟩
  go_enter Tryz.func289, Tryz.ntmps289
  go_wp2
  go_loop [3] (fun i => ∃ k : Nat, k ≤ n ∧ i = .int .i64 k ∧ tl l k = tl l n) (fun i => (intOf i).toNat)
  case atStart => exact ⟨n, Nat.le_refl _, rfl, rfl⟩
  case round =>
    obtain ⟨k, hk, rfl, ht⟩ := hrel
    have HT := Lib.hid ht
    clear ht
    by_cases hlt : 0 < k
    · obtain ⟨b, o, rfl, hc⟩ := h.cell (by omega)
      obtain ⟨k, rfl⟩ : ∃ m, k = m + 1 := ⟨k - 1, by omega⟩
      have hw := wd_lt h.lim k
      have hc1 := hc k (by omega)
      clear hc
      by_cases hz : wd l k = 0
      · have hz2 : ((wd l k : Nat) : Int) = 0 := by omega
        have HZ := Lib.hid hz
        clear hz
        go_wp2
        go_round
        case rel => exact ⟨k, by omega, by go_num, by rw [← HT.out, tl, if_pos HZ.out]⟩
        case measure => simp [intOf]
      · have hzz : (((wd l k : Nat) : Int) == 0) = false := by simp; omega
        have HK : Hid (k + 1 = wl (val l)) := by show k + 1 = wl (val l); rw [HW.out.1, ← HT.out, tl, if_neg hz]
        have hR := HW.out.2
        rw [← HK.out] at hR
        have HR := Lib.hid hR
        have HLM : Hid (lim (wds (val l)) ∧ True) := ⟨lim_wds _, trivial⟩
        clear hz hR
        go_wp2_with (at_builtin; refine wpList_append_rd _ rfl (.tmp 19) (.tmp 22) 22 rfl w.heap.size 116 i0 _ Tryz.underlying22 hi0 hz0 hz1 hz2 rfl (.slice none 0 0) 0 [] rfl (World.ownsRow_nil _ _ _ _) (some ⟨b, o, none⟩) (k + 1) c (wds (val l)) rfl HR.out (by omega) (Nat.le_refl _) ?_; intro v1 w1 hown hgr)
        go_ret
        exact ⟨_, rfl, Own.of_row (by simpa using hown) HLM.out.1 (by omega), (Below.refl _ _).grown hgr (Nat.le_refl _) (fun k hk => by simp [Value.ownBlock] at hk)⟩
    · obtain rfl : k = 0 := by omega
      have HK : Hid (0 = wl (val l)) := by show 0 = wl (val l); rw [HW.out.1, ← HT.out, tl]
      have hR := HW.out.2
      rw [← HK.out] at hR
      have HR := Lib.hid hR
      have HLM : Hid (lim (wds (val l)) ∧ True) := ⟨lim_wds _, trivial⟩
      clear hR
      go_wp2_with (at_builtin; refine wpList_append_rd _ rfl (.tmp 19) (.tmp 22) 22 rfl w.heap.size 116 i0 _ Tryz.underlying22 hi0 hz0 hz1 hz2 rfl (.slice none 0 0) 0 [] rfl (World.ownsRow_nil _ _ _ _) A 0 c (wds (val l)) rfl HR.out (by omega) (Nat.le_refl _) ?_; intro v1 w1 hown hgr)
      go_ret
      exact ⟨_, rfl, Own.of_row (by simpa using hown) HLM.out.1 (by omega), (Below.refl _ _).grown hgr (Nat.le_refl _) (fun k hk => by simp [Value.ownBlock] at hk)⟩
end Go.Proofs.YtcbkijeonilcjaaGreat
