/- The reference of layer 1: bits; numbers of 64 bits. -/
import Derived.Test.YtcbkijeonilcjaaGreatHC7
namespace Go.Proofs.YtcbkijeonilcjaaGreat
open Go.RowKit

theorem blen_zero : blen 0 = 0 := by unfold blen; rw [if_pos rfl]
theorem blen_half {x : Nat} (h : 0 < x) : blen x = blen (x / 2) + 1 := by
  by_cases h1 : x / 2 = 0
  · rw [h1, blen_zero]
    obtain rfl : x = 1 := by omega
    exact blen_unique (n := 0) (by omega) (by omega)
  · obtain ⟨a, b⟩ := blen_le h1
    have c := blen_lt (x / 2)
    have e : 2 ^ (blen (x / 2)) = 2 * 2 ^ (blen (x / 2) - 1) := by
      obtain ⟨j, hj⟩ : ∃ j, blen (x / 2) = j + 1 := ⟨blen (x / 2) - 1, by omega⟩
      rw [hj, Nat.add_sub_cancel, Nat.pow_succ, Nat.mul_comm]
    refine blen_unique ?_ ?_
    · omega
    · rw [Nat.pow_succ]; omega

set_option maxHeartbeats 1000000 in
theorem ref01_Bits (A : Option Addr) (n c : Nat) (l : List Nat) (w : World) (h : Rd w A n c l) :
    Calls Tryz.prog 272 #[.slice A n c] w fun e w' => e = .returned (.int .i64 (blen (val l))) ∧ Below w.heap.size w w' := by
  have hl := h.big.1
  have hwl : wl (val l) ≤ 35184372087808 := Nat.le_trans (wl_val_le h.lim) (by have := h.len; omega)
  obtain ⟨x, hx⟩ : ∃ x, val l = x := ⟨_, rfl⟩
  rw [hx] at hwl ⊢
  have HX0 := Lib.hid hx
  clear hx
  go_enter Tryz.func272, Tryz.ntmps272
  go_wp2_with fail
  refine (ref01_Trim A n c l _ h).mono ?_
  rintro e w1 ⟨v, rfl, hO, hB1⟩
  rw [HX0.out] at hO
  obtain ⟨A', c', rfl, hR⟩ := hO.wl0
  have HB := Lib.hid hB1
  clear hO hB1 h hl
  by_cases h0 : wl x = 0
  · have e1 : ((wl x : Int) == 0) = true := by rw [h0]; rfl
    have hx := wl_eq_zero.1 h0
    have HZ : Hid (blen x = 0) := by show blen x = 0; rw [hx]; exact blen_zero
    clear h0 hx
    go_wp2_with fail
    go_ret
    exact ⟨ret_int (by rw [HZ.out]; rfl), HB.out⟩
  · have e1 : ((wl x : Int) == 0) = false := by simp; omega
    have hxp : x ≠ 0 := fun e => h0 (wl_eq_zero.2 e)
    obtain ⟨b, o, rfl, hc⟩ := hR.cell (by omega)
    have d1 := hc (wl x - 1) (by omega)
    have l1 := wd_lt hR.lim (wl x - 1)
    have HT := Lib.hid (blen_top hxp)
    have HL := Lib.hid (blen_le_of_lt (n := 32) (x := wd (wds x) (wl x - 1)) (by omega))
    have hi : ((wl x : Int) - 1).toNat = wl x - 1 := by omega
    have hbb : blen x ≤ 1200000000000000 := by have := HT.out; have := HL.out; omega
    clear hc hxp
    go_wp2_with fail
    go_loop [4, 5] (fun mv yv => ∃ m y : Nat, mv = .int .i64 m ∧ yv = .int .u32 y ∧ y < 4294967296 ∧ m + blen y = blen x) (fun _ yv => (intOf yv).toNat)
    case atStart => exact ⟨32 * (wl x - 1), wd (wds x) (wl x - 1), by congr 1; omega, rfl, l1, HT.out.symm⟩
    case round =>
      obtain ⟨m, y, rfl, rfl, hy, hm⟩ := hrel
      by_cases hp : 0 < y
      · have hh := blen_half hp
        have HN : Hid (m + 1 + blen (y / 2) = blen x) := by show _ = _; omega
        have hmb : m ≤ 1200000000000000 := by omega
        clear hh hm
        go_wp2_with fail
        go_round
        case rel => exact ⟨m + 1, y / 2, by go_num, by go_num, by omega, HN.out⟩
        case measure => simp [intOf]; omega
      · obtain rfl : y = 0 := by omega
        have HN : Hid (m = blen x) := by show m = blen x; rw [blen_zero] at hm; exact hm
        clear hm
        go_wp2_with fail
        go_ret
        exact ⟨ret_int (by rw [HN.out]), HB.out⟩

set_option maxHeartbeats 1000000 in
theorem ref01_Uint64 (A : Option Addr) (n c : Nat) (l : List Nat) (w : World) (h : Rd w A n c l) (hv : val l < 18446744073709551616) :
    Calls Tryz.prog 320 #[.slice A n c] w fun e w' => e = .returned (.tuple #[.int .u64 (val l : Nat), .bool true]) ∧ Below w.heap.size w w' := by
  obtain ⟨x, hx⟩ : ∃ x, val l = x := ⟨_, rfl⟩
  rw [hx] at hv ⊢
  have HX0 := Lib.hid hx
  clear hx
  go_enter Tryz.func320, Tryz.ntmps320
  go_wp2_with fail
  refine (ref01_Trim A n c l _ h).mono ?_
  rintro e w1 ⟨v, rfl, hO, hB1⟩
  rw [HX0.out] at hO
  obtain ⟨A', c', rfl, hR⟩ := hO.wl0
  have HB := Lib.hid hB1
  clear hO hB1 h
  have hw : wl x ≤ 2 := wl_le.2 (by simpa using hv)
  have e1 : ((2 : Int) < (wl x : Int)) = False := by simp; omega
  have l1 := wd_lt hR.lim 0
  have l2 := wd_lt hR.lim 1
  have HX : Hid (x = wd (wds x) 0 + 4294967296 * wd (wds x) 1) := by
    show x = _
    rw [wd_wds, wd_wds]; simp; omega
  have e2 : IntKind.u64.wrap ((wd (wds x) 1 : Int) * 4294967296) = (wd (wds x) 1 : Int) * 4294967296 := by rw [wrap_u64']; omega
  go_wp2_with fail
  refine (ref01_word A' _ c' _ 0 _ hR (by omega)).mono ?_
  rintro e w2 ⟨rfl, n2, rfl⟩
  go_wp2_with fail
  refine (ref01_word A' _ c' _ 1 _ (hR.drewN _) (by omega)).mono ?_
  rintro e w2 ⟨rfl, n3, rfl⟩
  go_wp2_with fail
  go_ret2
  have hxx := HX.out
  exact ⟨congrArg (fun z : Int => Ending.returned (Value.tuple #[.int .u64 z, .bool true])) (show (wd (wds x) 0 : Int) + (wd (wds x) 1 : Nat) * 4294967296 = (x : Nat) from by omega), below_drewN HB.out _⟩
end Go.Proofs.YtcbkijeonilcjaaGreat

/- The reference of layer 1: shifts. -/
namespace Go.Proofs.YtcbkijeonilcjaaGreat
open Go.RowKit

/-- so far, with m words of nought ahead -/
def upAt2 (x n m k : Nat) (l : List Nat) : Prop := val (l.take (m + k + 1)) = 4294967296 ^ m * ((x % 4294967296 ^ k) * 2 ^ n) ∧ wd l (m + k) < 2 ^ n ∧ ∀ j, m + k < j → wd l j = 0
theorem upAt2_zero (x n m q : Nat) : upAt2 x n m 0 (List.replicate q 0) := by
  refine ⟨?_, by rw [wd_replicate]; exact Nat.pow_pos (by omega), fun _ _ => wd_replicate _ _⟩
  rw [List.take_replicate, val_replicate, Nat.pow_zero, Nat.mod_one]; omega
theorem upAt2_step {x n m k : Nat} {l : List Nat} (h : upAt2 x n m k l) (hn : n < 32) (hk : m + k + 1 < l.length) :
    upAt2 x n m (k + 1) ((l.set (m + k) (wd l (m + k) + wd (wds x) k * 2 ^ n % 4294967296)).set (m + k + 1) (wd (wds x) k * 2 ^ n / 4294967296)) := by
  have hw := wd_lt (lim_wds x) k
  obtain ⟨h, ho, hz⟩ := h
  have hu := up_word hn hw ho
  refine ⟨?_, ?_, fun j hj => ?_⟩
  · rw [show m + (k + 1) + 1 = (m + k + 1) + 1 from by omega, val_take_set _ _ _ (by simp; omega), val_take_set _ _ _ (by omega), mod_wd]
    rw [val_take_succ] at h
    generalize wd (wds x) k = w at *
    have e := Nat.div_add_mod (w * 2 ^ n) 4294967296
    generalize w * 2 ^ n / 4294967296 = q at *
    generalize w * 2 ^ n % 4294967296 = r at *
    generalize 2 ^ n = N at *
    rw [Nat.pow_succ, Nat.pow_add] at *
    generalize 4294967296 ^ k = P at *
    generalize 4294967296 ^ m = M at *
    grind
  · rw [show m + (k + 1) = m + k + 1 from by omega, wd_set_eq _ (by simp; omega)]; exact hu.2.2
  · rw [wd_set_ne _ (by omega), wd_set_ne _ (by omega)]; exact hz j (by omega)
theorem upAt2_end {x n m k : Nat} {l : List Nat} (h : upAt2 x n m k l) (hx : wl x ≤ k) (hl : l.length = m + k + 1) : val l = x * 2 ^ (32 * m + n) := by
  have := h.1
  rw [mod_top hx, List.take_of_length_le (by omega)] at this
  rw [this, Nat.pow_add, Nat.pow_mul]
  rw [Nat.mul_left_comm]

set_option maxRecDepth 100000 in
set_option maxHeartbeats 1000000 in
theorem ref01_Up (A : Option Addr) (c x n : Nat) (w : World) (h : Rd w A (wl x) c (wds x)) (hx : wl x ≤ 100000) (hn : n ≤ 1000000) :
    Calls Tryz.prog 221 #[.slice A (wl x) c, .int .i64 n] w fun e w' => ∃ v, e = .returned v ∧ Own 116 w' w.heap.size v (wds (x * 2 ^ n)) ∧ Below w.heap.size w w' := by
  by_cases h0 : wl x = 0
  · have e1 : ((wl x : Int) == 0) = true := by rw [h0]; rfl
    have HZ : Hid (wds (x * 2 ^ n) = []) := by show wds (x * 2 ^ n) = []; rw [wl_eq_zero.1 h0, Nat.zero_mul, wds_zero]
    clear h0
    go_enter Tryz.func221, Tryz.ntmps221
    go_wp2_with fail
    go_ret
    exact ⟨_, rfl, .inl ⟨rfl, HZ.out⟩, Below.refl _ _⟩
  have e1 : ((wl x : Int) == 0) = false := by simp; omega
  obtain ⟨i0, hi0, hz0, hz1, hz2⟩ := info_parts u32_info
  obtain ⟨m, hm⟩ : ∃ m : Nat, m = n / 32 := ⟨_, rfl⟩
  obtain ⟨r, hr⟩ : ∃ r : Nat, r = n % 32 := ⟨_, rfl⟩
  have HMR : Hid (n = 32 * m + r ∧ r < 32) := by show _ ∧ _; omega
  have hmb : m ≤ 1000000 := by omega
  have hrb : r < 32 := by omega
  have ed : (n : Int) / 32 = (m : Int) := by omega
  have er : (n : Int) % 32 = (r : Int) := by omega
  have et : ((r : Nat) : Int).toNat = r := by omega
  have hmk := fun (w : World) => run_make_u32 (P := Tryz.prog) 22 116 i0 Tryz.underlying22 hi0 hz0 hz1 hz2 (m + wl x + 1) ((wl x : Int) + m + 1) (by omega) (by omega) w
  have ha0 : Ar 116 (w.alloc (.cells (zeros (m + wl x + 1)) 116)) w.heap.size 0 (m + wl x + 1) (m + wl x + 1) (List.replicate (m + wl x + 1) 0) := ar_zeros 116 w (m + wl x + 1) (by omega)
  have hb0 : Below w.heap.size w (w.alloc (.cells (zeros (m + wl x + 1)) 116)) := (Below.refl _ _).alloc (Nat.le_refl _) _
  clear hi0 hz0 hz1 hz2 hm hr
  generalize hg : w.heap.size = g at ha0
  generalize hw0 : w.alloc (.cells (zeros (m + wl x + 1)) 116) = w0 at ha0 hb0
  go_enter Tryz.func221, Tryz.ntmps221
  go_wp2
  have HW0 := Lib.hid hw0
  have HG := Lib.hid hg
  clear hw0 hg
  go_loopw [6] (fun iv wr => ∃ (k : Nat) (cs : List Nat), iv = .int .i64 k ∧ k ≤ wl x ∧ upAt2 x r m k cs ∧ Ar 116 wr g 0 (m + wl x + 1) (m + wl x + 1) cs ∧ Mod g 0 (m + wl x + 1) w0 wr) (fun iv _ => wl x - (intOf iv).toNat)
  case atStart => exact ⟨0, _, rfl, Nat.zero_le _, upAt2_zero _ _ _ _, ha0, Mod.refl _ _ _ _⟩
  case round =>
    obtain ⟨k, cs, rfl, hk, hS, hA, hM⟩ := hrel
    have R1 := h.mod hb0 hM (Nat.le_of_eq HG.out)
    have HM := Lib.hid hM
    clear hM
    by_cases hlt : k < wl x
    · obtain ⟨b, o, rfl, hc⟩ := R1.cell (by omega)
      have d1 := hc k hlt
      have l1 := wd_lt R1.lim k
      clear hc
      have f1 := hA.cell (m + k) (by omega)
      have f2 := hA.free (m + k)
      have f3 := hA.cell (m + k + 1) (by omega)
      have f4 := hA.free (m + k + 1)
      have l2 := wd_lt hA.lim (m + k)
      rw [Nat.zero_add] at f1 f3
      have ho := hS.2.1
      have hu := up_word hrb l1 ho
      have hst := upAt2_step hS hrb (by have := hA.len; omega)
      have hA2 := hA.set (m + k) (wd cs (m + k) + wd (wds x) k * 2 ^ r % 4294967296) (by omega) (by omega)
      have hA3 := hA2.set (m + k + 1) (wd (wds x) k * 2 ^ r / 4294967296) (by omega) (Nat.lt_trans hu.2.2 (pow_lt_32 hrb))
      rw [Nat.zero_add, Nat.zero_add] at hA3
      have e5 := wrap_up (wd (wds x) k) r hrb l1
      have hul := Nat.lt_trans hu.2.2 (pow_lt_32 hrb)
      have HH := Lib.hid (And.intro ho (And.intro hu (And.intro hst hA3)))
      rw [Nat.add_comm m k] at f1 f2 f3 f4
      clear hu hst hA2 hA3 ho hS
      go_wp2_with fail
      go_roundw
      case rel =>
        obtain ⟨ho, hu, hst, hA3⟩ := HH.out
        refine ⟨k + 1, _, by go_num, by omega, hst, ?_, (HM.out.setCell (k + m) _ (by omega)).setCell (k + m + 1) _ (by omega)⟩
        have ep : (wd (wds x) k : Int) * 2 ^ r = ((wd (wds x) k * 2 ^ r : Nat) : Int) := by rw [Int.natCast_mul, Int.natCast_pow]; rfl
        have hlo := hu.2.1
        rw [Nat.add_comm m k] at hA3 hlo
        have e6 : ((wd cs (k + m) : Int) + (wd (wds x) k : Int) * 2 ^ r) % 4294967296 = ((wd cs (k + m) + wd (wds x) k * 2 ^ r % 4294967296 : Nat) : Int) := by
          rw [ep]
          generalize wd (wds x) k * 2 ^ r = p at *
          omega
        have e7 : (wd (wds x) k : Int) * 2 ^ r / 4294967296 % 4294967296 = ((wd (wds x) k * 2 ^ r / 4294967296 : Nat) : Int) := by
          rw [ep]
          generalize wd (wds x) k * 2 ^ r = p at *
          omega
        rw [e6, e7, Nat.add_comm m k]
        exact hA3
      case measure => simp [intOf]; omega
    · obtain rfl : k = wl x := by omega
      have hv := upAt2_end hS (Nat.le_refl _) hA.len
      have HV := Lib.hid (show val cs = x * 2 ^ n by rw [hv, ← HMR.out.1])
      clear hv
      go_wp2_with fail
      refine (ref01_Trim _ _ _ _ _ hA.rd).mono ?_
      rintro e w1 ⟨v, rfl, hO, hB1⟩
      rw [HV.out] at hO
      go_wp2
      go_ret
      have hbx : Below g w wr := by
        have := (HM.out.below _ (Nat.le_refl _))
        rw [HG.out] at hb0
        exact hb0.trans this
      have hsz : g ≤ wr.heap.size := Nat.le_of_lt hA.lt
      exact ⟨_, rfl, hO.mono hsz, hbx.trans (hB1.mono hsz)⟩
end Go.Proofs.YtcbkijeonilcjaaGreat

/- The reference of layer 1: shifts down. -/
namespace Go.Proofs.YtcbkijeonilcjaaGreat
open Go.RowKit

def downAt2 (x n k : Nat) (l : List Nat) : Prop := val (l.take k) = x / 2 ^ n % 4294967296 ^ k
theorem downAt2_zero (x n : Nat) (l : List Nat) : downAt2 x n 0 l := by unfold downAt2; simp [val, Nat.mod_one]
theorem downAt2_step {x n k : Nat} {l : List Nat} (h : downAt2 x n k l) (hn : n < 32) (hk : k < l.length) :
    downAt2 x n (k + 1) (l.set k ((wd (wds x) k + 4294967296 * wd (wds x) (k + 1)) / 2 ^ n % 4294967296)) := by
  unfold downAt2 at *
  rw [val_take_set _ _ _ hk, h, down_word x n k hn, mod_succ]
theorem downAt2_end {x n : Nat} {l : List Nat} (h : downAt2 x n l.length l) (hx : wl x ≤ l.length) : val l = x / 2 ^ n := by
  unfold downAt2 at h
  rwa [List.take_length, Nat.mod_eq_of_lt (Nat.lt_of_le_of_lt (Nat.div_le_self _ _) (wl_le.1 hx))] at h
theorem val_drop_div {l : List Nat} (hl : lim l) (m : Nat) (hm : m ≤ l.length) : val (l.drop m) = val l / 4294967296 ^ m := by
  have hs := val_split l m hm
  rw [hs, Nat.add_mul_div_left _ _ (Nat.pow_pos (by omega)), Nat.div_eq_of_lt (val_take_lt hl m), Nat.zero_add]

set_option maxRecDepth 100000 in
set_option maxHeartbeats 1000000 in
theorem ref01_Down (A : Option Addr) (n' c : Nat) (l : List Nat) (n : Nat) (w : World) (h : Rd w A n' c l) (hx : n' ≤ 100000) (hn : n ≤ 1000000) :
    Calls Tryz.prog 324 #[.slice A n' c, .int .i64 n] w fun e w' => ∃ v, e = .returned v ∧ Own 116 w' w.heap.size v (wds (val l / 2 ^ n)) ∧ Below w.heap.size w w' := by
  obtain ⟨m, hm⟩ : ∃ m : Nat, m = n / 32 := ⟨_, rfl⟩
  obtain ⟨r, hr⟩ : ∃ r : Nat, r = n % 32 := ⟨_, rfl⟩
  have HMR : Hid (n = 32 * m + r ∧ r < 32) := by show _ ∧ _; omega
  have hrb : r < 32 := by omega
  have ed : (n : Int) / 32 = (m : Int) := by omega
  have er : (n : Int) % 32 = (r : Int) := by omega
  have et : ((r : Nat) : Int).toNat = r := by omega
  clear hm hr
  by_cases h0 : n' ≤ m
  · have HZ : Hid (wds (val l / 2 ^ n) = []) := by
      show wds (val l / 2 ^ n) = []
      have h1 : val l < 4294967296 ^ m := Nat.lt_of_lt_of_le (val_lt h.lim) (Nat.pow_le_pow_right (by omega) (by have := h.len; omega))
      have h2 : 4294967296 ^ m ≤ 2 ^ n := by
        rw [show (4294967296 : Nat) = 2 ^ 32 from rfl, ← Nat.pow_mul]
        exact Nat.pow_le_pow_right (by omega) (by have := HMR.out; omega)
      rw [Nat.div_eq_of_lt (by omega), wds_zero]
    have e1 : ((n' : Int) ≤ (m : Int)) = True := by simp; omega
    go_enter Tryz.func324, Tryz.ntmps324
    go_wp2_with fail
    go_ret
    exact ⟨_, rfl, .inl ⟨rfl, HZ.out⟩, Below.refl _ _⟩
  have e1 : ((n' : Int) ≤ (m : Int)) = False := by simp; omega
  obtain ⟨b, o, rfl, hcc⟩ := h.cell (by omega)
  -- what is left of the list
  obtain ⟨q, hq⟩ : ∃ q, q = n' - m := ⟨_, rfl⟩
  obtain ⟨z, hz⟩ : ∃ z, z = val l / 4294967296 ^ m := ⟨_, rfl⟩
  have hzz : val (l.drop m) = z := by rw [hz]; exact val_drop_div h.lim m (by have := h.len; omega)
  have HZ : Hid (val l / 2 ^ n = z / 2 ^ r) := by
    show val l / 2 ^ n = z / 2 ^ r
    rw [HMR.out.1, hz, Nat.pow_add, Nat.pow_mul, Nat.div_div_eq_div_mul]
  have hR : Rd w (some ⟨b, o + m, none⟩) q (c - m) (l.drop m) :=
    ⟨by rw [List.length_drop, h.len, hq], lim_drop h.lim m, by have := h.cap; omega, ⟨by omega, by have := h.big.2; omega⟩, fun _ => ⟨b, o + m, rfl, fun j hj => by
      rw [Nat.add_assoc, hcc (m + j) (by omega), wd_drop]⟩⟩
  obtain ⟨i0, hi0, hz0, hz1, hz2⟩ := info_parts u32_info
  have hmk := fun (w : World) => run_make_u32 (P := Tryz.prog) 22 116 i0 Tryz.underlying22 hi0 hz0 hz1 hz2 q (q : Int) (by omega) (by omega) w
  have ha0 : Ar 116 (w.alloc (.cells (zeros q) 116)) w.heap.size 0 q q (List.replicate q 0) := ar_zeros 116 w q (by omega)
  have hb0 : Below w.heap.size w (w.alloc (.cells (zeros q) 116)) := (Below.refl _ _).alloc (Nat.le_refl _) _
  have hnb := h.cap
  clear hi0 hz0 hz1 hz2 hz
  subst hq
  generalize hg : w.heap.size = g at ha0
  generalize hw0 : w.alloc (.cells (zeros (n' - m)) 116) = w0 at ha0 hb0
  go_enter Tryz.func324, Tryz.ntmps324
  go_wp2
  have HW0 := Lib.hid hw0
  have HG := Lib.hid hg
  have HVZ := Lib.hid hzz
  clear hw0 hg hzz
  go_loopw [7] (fun iv wr => ∃ (k : Nat) (cs : List Nat), iv = .int .i64 k ∧ k ≤ n' - m ∧ downAt2 z r k cs ∧ Ar 116 wr g 0 (n' - m) (n' - m) cs ∧ (∃ n1, Mod g 0 (n' - m) (w0.drewN n1) wr)) (fun iv _ => n' - m - (intOf iv).toNat)
  case atStart => exact ⟨0, _, rfl, Nat.zero_le _, downAt2_zero _ _ _, ha0, 0, Mod.refl _ _ _ _⟩
  case round =>
    obtain ⟨k, cs, rfl, hk, hS, hA, n1, hM⟩ := hrel
    have R1 := hR.mod (below_drewN hb0 n1) hM (Nat.le_of_eq HG.out)
    have HMo := Lib.hid hM
    clear hM
    by_cases hlt : k < n' - m
    · obtain ⟨b2, o2, hbo, hc⟩ := R1.cell (by omega)
      cases hbo
      have d1 := hc k hlt
      clear hc
      have f1 := hA.cell k (by omega)
      have f2 := hA.free k
      rw [Nat.zero_add] at f1
      have l1 := wd_lt R1.lim k
      have l2 := wd_lt R1.lim (k + 1)
      have hst := downAt2_step hS hrb (by have := hA.len; omega)
      rw [← HVZ.out, wd_wds_val (lim_drop h.lim m), wd_wds_val (lim_drop h.lim m), HVZ.out] at hst
      have hA2 := hA.set k ((wd (l.drop m) k + 4294967296 * wd (l.drop m) (k + 1)) / 2 ^ r % 4294967296) (by omega) (by omega)
      rw [Nat.zero_add] at hA2
      have HS2 := Lib.hid (And.intro hst hA2)
      have w1 : IntKind.i64.wrap ((k : Int) + 1) = (k : Int) + 1 := by rw [IntKind.wrap_i64]; omega
      have e3 : IntKind.u64.wrap ((wd (l.drop m) (k + 1) : Int) * 4294967296) = (wd (l.drop m) (k + 1) : Int) * 4294967296 := by rw [wrap_u64']; omega
      have e4 : IntKind.u64.wrap ((wd (l.drop m) (k + 1) : Int) * 4294967296 + (wd (l.drop m) k : Nat)) = (wd (l.drop m) (k + 1) : Int) * 4294967296 + (wd (l.drop m) k : Nat) := by rw [wrap_u64']; omega
      clear hst hA2 hS
      go_wp2_with fail
      go_quiet ((go_at_call 288; exact Calls.quiet_of (ref01_word (some ⟨b, o + m, none⟩) (n' - m) (c - m) (l.drop m) (k + 1) _ (R1.drewN _) (by omega))))
      go_wp2_with fail
      obtain ⟨hst, hA2⟩ := HS2.out
      go_roundw
      case rel =>
        refine ⟨k + 1, _, by go_num, by omega, hst, ?_, n1, (HMo.out.drewN _).setCell k _ (by omega)⟩
        have e : ((wd (l.drop m) (k + 1) : Int) * 4294967296 + (wd (l.drop m) k : Nat)) / 2 ^ r % 4294967296 = (((wd (l.drop m) k + 4294967296 * wd (l.drop m) (k + 1)) / 2 ^ r % 4294967296 : Nat) : Int) := by
          rw [Int.natCast_emod, Int.natCast_ediv, Int.natCast_pow]
          congr 2
          omega
        first
          | (rw [e]; exact hA2)
      case measure => simp [intOf]; omega
    · obtain rfl : k = n' - m := by omega
      have hl := hA.len
      have hv : val cs = z / 2 ^ r := by
        rw [← hl] at hS
        refine downAt2_end hS ?_
        rw [← HVZ.out, hl]
        exact Nat.le_trans (wl_val_le (lim_drop h.lim m)) (by rw [List.length_drop, h.len]; omega)
      have HV := Lib.hid (hv.trans HZ.out.symm)
      clear hl hv
      go_wp2_with fail
      refine (ref01_Trim _ _ _ _ _ hA.rd).mono ?_
      rintro e w1 ⟨v, rfl, hO, hB1⟩
      rw [HV.out] at hO
      go_wp2
      go_ret
      have hbx : Below g w wr := by
        have := (HMo.out.below _ (Nat.le_refl _))
        rw [HG.out] at hb0
        exact (below_drewN hb0 n1).trans this
      have hsz : g ≤ wr.heap.size := Nat.le_of_lt hA.lt
      exact ⟨_, rfl, hO.mono hsz, hbx.trans (hB1.mono hsz)⟩
end Go.Proofs.YtcbkijeonilcjaaGreat

/- The reference of layer 1: differences. -/
namespace Go.Proofs.YtcbkijeonilcjaaGreat
open Go.RowKit

theorem less_wrap (a c : Nat) (ha : a < 4294967296) (hc : c ≤ 1) : IntKind.u64.wrap ((a : Int) + c) = ((a + c : Nat) : Int) := by rw [wrap_u64']; omega

set_option maxHeartbeats 1000000 in
theorem ref01_Less (A A' : Option Addr) (n c n' c' : Nat) (l l' : List Nat) (w : World) (h : Rd w A n c l) (h' : Rd w A' n' c' l') (hn : n ≤ 1000000) (hv : val l' ≤ val l) :
    Calls Tryz.prog 282 #[.slice A n c, .slice A' n' c'] w fun e w' => ∃ v, e = .returned v ∧ Own 116 w' w.heap.size v (wds (val l - val l')) ∧ Below w.heap.size w w' := by
  obtain ⟨i0, hi0, hz0, hz1, hz2⟩ := info_parts u32_info
  have HV : Hid (wl (val l) ≤ n ∧ val l' ≤ val l) := ⟨Nat.le_trans (wl_val_le h.lim) (by have := h.len; omega), hv⟩
  have HWD : Hid ((∀ k, wd (wds (val l)) k = wd l k) ∧ ∀ k, wd (wds (val l')) k = wd l' k) := ⟨wd_wds_val h.lim, wd_wds_val h'.lim⟩
  have hmk := fun (w : World) => run_make_u32 (P := Tryz.prog) 22 116 i0 Tryz.underlying22 hi0 hz0 hz1 hz2 n (n : Int) (by omega) (by omega) w
  have ha0 : Ar 116 (w.alloc (.cells (zeros n) 116)) w.heap.size 0 n n (List.replicate n 0) := ar_zeros 116 w n (by omega)
  have hb0 : Below w.heap.size w (w.alloc (.cells (zeros n) 116)) := (Below.refl _ _).alloc (Nat.le_refl _) _
  clear hi0 hz0 hz1 hz2 hv
  generalize hg : w.heap.size = g at ha0
  generalize hw0 : w.alloc (.cells (zeros n) 116) = w0 at ha0 hb0
  go_enter Tryz.func282, Tryz.ntmps282
  go_wp2
  have HW0 := Lib.hid hw0
  have HG := Lib.hid hg
  clear hw0 hg
  go_loopw [6, 7] (fun cv iv wr => ∃ (k c2 : Nat) (cs : List Nat), iv = .int .i64 k ∧ cv = .int .u64 c2 ∧ k ≤ n ∧ subAt (val l) (val l') k c2 cs ∧ Ar 116 wr g 0 n n cs ∧ (∃ n1, Mod g 0 n (w0.drewN n1) wr)) (fun _ iv _ => n - (intOf iv).toNat)
  case atStart => exact ⟨0, 0, _, rfl, rfl, Nat.zero_le _, subAt_zero _ _ _, ha0, 0, Mod.refl _ _ _ _⟩
  case round =>
    obtain ⟨k, c2, cs, rfl, rfl, hk, hS, hA, n1, hM⟩ := hrel
    have hc1 := hS.1
    have R1 := h.mod (below_drewN hb0 n1) hM (Nat.le_of_eq HG.out)
    have R2 := h'.mod (below_drewN hb0 n1) hM (Nat.le_of_eq HG.out)
    have HMo := Lib.hid hM
    clear hM
    by_cases hlt : k < n
    · obtain ⟨b, o, rfl, hc⟩ := R1.cell (by omega)
      have d1 := hc k hlt
      clear hc
      have f1 := hA.cell k (by omega)
      have f2 := hA.free k
      have l1 := wd_lt R1.lim k
      have l2 := wd_lt R2.lim k
      rw [Nat.zero_add] at f1
      have hwr := less_wrap _ _ l2 hc1
      by_cases hcmp : wd l' k + c2 ≤ wd l k
      · have hst := subAt_step (c' := 0) (o := wd l k - (wd l' k + c2)) hS (by have := hA.len; omega) (by omega) (by rw [HWD.out.1, HWD.out.2]; omega)
        have hA2 := hA.set k (wd l k - (wd l' k + c2)) (by omega) (by omega)
        rw [Nat.zero_add] at hA2
        have HS2 := Lib.hid (And.intro hst hA2)
        have e1 : ((wd l k : Int) < ((wd l' k + c2 : Nat) : Int)) = False := by simp; omega
        clear hst hA2 hS
        go_wp2_with fail
        go_quiet ((go_at_call 288; exact Calls.quiet_of (ref01_word A' n' c' l' k _ (R2.drewN _) (by omega))))
        go_wp2_with fail
        obtain ⟨hst, hA2⟩ := HS2.out
        go_roundw
        case rel =>
          refine ⟨k + 1, 0, cs.set k (wd l k - (wd l' k + c2)), by go_num, rfl, by omega, hst, ?_, n1, (HMo.out.drewN _).setCell k _ (by omega)⟩
          have e : (wd l k : Int) - ((wd l' k : Nat) + (c2 : Nat)) = ((wd l k - (wd l' k + c2) : Nat) : Int) := by omega
          rw [e]; exact hA2
        case measure => simp [intOf]; omega
      · have hst := subAt_step (c' := 1) (o := wd l k + 4294967296 - (wd l' k + c2)) hS (by have := hA.len; omega) (by omega) (by rw [HWD.out.1, HWD.out.2]; omega)
        have hA2 := hA.set k (wd l k + 4294967296 - (wd l' k + c2)) (by omega) (by omega)
        rw [Nat.zero_add] at hA2
        have HS2 := Lib.hid (And.intro hst hA2)
        have e1 : ((wd l k : Int) < ((wd l' k + c2 : Nat) : Int)) = True := by simp; omega
        clear hst hA2 hS
        go_wp2_with fail
        go_quiet ((go_at_call 288; exact Calls.quiet_of (ref01_word A' n' c' l' k _ (R2.drewN _) (by omega))))
        go_wp2_with fail
        obtain ⟨hst, hA2⟩ := HS2.out
        go_roundw
        case rel =>
          refine ⟨k + 1, 1, cs.set k (wd l k + 4294967296 - (wd l' k + c2)), by go_num, rfl, by omega, hst, ?_, n1, (HMo.out.drewN _).setCell k _ (by omega)⟩
          have e : (wd l k : Int) + 4294967296 - ((wd l' k : Nat) + (c2 : Nat)) = ((wd l k + 4294967296 - (wd l' k + c2) : Nat) : Int) := by omega
          first
            | (rw [e]; exact hA2)
            | (rw [e, show (((wd l k + 4294967296 - (wd l' k + c2) : Nat) : Int)) % 4294967296 = ((wd l k + 4294967296 - (wd l' k + c2) : Nat) : Int) from by omega]; exact hA2)
        case measure => simp [intOf]; omega
    · obtain rfl : k = n := by omega
      have hv := subAt_end hS HV.out.2 HV.out.1 hA.len hA.lim
      go_wp2_with fail
      refine (ref01_Trim _ _ _ _ _ hA.rd).mono ?_
      rintro e w1 ⟨v, rfl, hO, hB1⟩
      rw [hv] at hO
      go_wp2
      go_ret
      have hbx : Below g w wr := by
        have := (HMo.out.below _ (Nat.le_refl _))
        rw [HG.out] at hb0
        exact (below_drewN hb0 n1).trans this
      have hsz : g ≤ wr.heap.size := Nat.le_of_lt hA.lt
      exact ⟨_, rfl, hO.mono hsz, hbx.trans (hB1.mono hsz)⟩
end Go.Proofs.YtcbkijeonilcjaaGreat
