/- Contracts of two functions of math/bits, laid off the kit's shelf by its own tools (lay-shelf, lay-plain). -/
import Derived.Test.YtcbkijeonilcjaaGreatHC4
import Derived.Shelf.Small.Bits
import Derived.Test.YtcbkijeonilcjaaGreatProg
import Derived.Deep.LoopGhost
namespace Go.Proofs.YtcbkijeonilcjaaGreat
open Go.Shelf
def lays128_ren : Go.Shelf.Ren := ⟨fun | 128 => 316 | n => n, fun | 51 => 116 | 3 => 3 | 4 => 4 | 46 => 183 | 5 => 5 | 9 => 9 | n => n, fun | n => n⟩
theorem lays128 : Go.Proofs.Lays.n128 Tryz.prog lays128_ren := {
  mixed := by kernel_rfl
  f128 := Tryz.func316.trans (congrArg some (by kernel_rfl))
  t3 := Tryz.underlying3
  a3 := Tryz.isAgg3
  z3 := Tryz.sizeOf3
  v3 := Tryz.zeroValue3
  t4 := Tryz.underlying4
  a4 := Tryz.isAgg4
  z4 := Tryz.sizeOf4
  v4 := Tryz.zeroValue4
  t5 := Tryz.underlying5
  a5 := Tryz.isAgg5
  z5 := Tryz.sizeOf5
  v5 := Tryz.zeroValue5
  t9 := Tryz.underlying9
  a9 := Tryz.isAgg9
  z9 := Tryz.sizeOf9
  v9 := Tryz.zeroValue9
  t46 := Tryz.underlying183
  a46 := Tryz.isAgg183
  z46 := Tryz.sizeOf183
  v46 := Tryz.zeroValue183
  t51 := Tryz.underlying116
  a51 := Tryz.isAgg116
  z51 := Tryz.sizeOf116
  v51 := Tryz.zeroValue116 }
/-- bits.Len32 (laid by the kit's tool). -/
theorem bits_Len32 (x : Int) (w : World) (h0 : 0 ≤ x) (h1 : x ≤ 4294967295) :
    Calls Tryz.prog 316 #[.int .u32 x] w fun e w' => e = .returned (.int .i64 (Lib.bitLen x.toNat)) ∧ w' = w := Any.bits_Len32 lays128 x w h0 h1
def lays133_ren : Go.Shelf.Ren := ⟨fun | 133 => 291 | 128 => 316 | n => n, fun | 51 => 116 | 3 => 3 | 4 => 4 | 46 => 183 | 5 => 5 | 9 => 9 | n => n, fun | n => n⟩
theorem lays133 : Go.Proofs.Lays.n133 Tryz.prog lays133_ren := {
  mixed := by kernel_rfl
  f128 := Tryz.func316.trans (congrArg some (by kernel_rfl))
  f133 := Tryz.func291.trans (congrArg some (by kernel_rfl))
  t3 := Tryz.underlying3
  a3 := Tryz.isAgg3
  z3 := Tryz.sizeOf3
  v3 := Tryz.zeroValue3
  t4 := Tryz.underlying4
  a4 := Tryz.isAgg4
  z4 := Tryz.sizeOf4
  v4 := Tryz.zeroValue4
  t5 := Tryz.underlying5
  a5 := Tryz.isAgg5
  z5 := Tryz.sizeOf5
  v5 := Tryz.zeroValue5
  t9 := Tryz.underlying9
  a9 := Tryz.isAgg9
  z9 := Tryz.sizeOf9
  v9 := Tryz.zeroValue9
  t46 := Tryz.underlying183
  a46 := Tryz.isAgg183
  z46 := Tryz.sizeOf183
  v46 := Tryz.zeroValue183
  t51 := Tryz.underlying116
  a51 := Tryz.isAgg116
  z51 := Tryz.sizeOf116
  v51 := Tryz.zeroValue116 }
/-- bits.LeadingZeros32 (laid by the kit's tool). -/
theorem bits_LeadingZeros32 (x : Int) (w : World) (h0 : 0 ≤ x) (h1 : x ≤ 4294967295) :
    Calls Tryz.prog 291 #[.int .u32 x] w fun e w' => e = .returned (.int .i64 (32 - (Lib.bitLen x.toNat : Int))) ∧ w' = w := Any.bits_LeadingZeros32 lays133 x w h0 h1
end Go.Proofs.YtcbkijeonilcjaaGreat

/- Package nat: a multiple taken off, put back; the whole division. -/
namespace Go.Proofs.YtcbkijeonilcjaaGreat
open Go.RowKit

theorem nat_off (b o c n V q : Nat) (A' : Option Addr) (c' : Nat) (u : List Nat) (w : World) (h : Ar 116 w b o (n + 1) c u) (h' : Rd w A' n c' (wds V)) (hne : 0 < n → ∀ b' o', A' = some ⟨b', o', none⟩ → b' ≠ b) (hq : q < 4294967296) :
    Calls Tryz.prog 294 #[.slice (some ⟨b, o, none⟩) (n + 1) c, .slice A' n c', .int .u64 q] w fun e w' => ∃ (l : List Nat) (bor : Nat), e = .returned (.bool ((bor : Int) != 0)) ∧ bor ≤ 1 ∧ val u + bor * 4294967296 ^ (n + 1) = val l + q * V ∧ Ar 116 w' b o (n + 1) c l ∧ Mod b o (o + (n + 1)) w w' := by
  obtain rfl : wl V = n := h'.len
  have hbig := h.cap.2.1
  go_enter Tryz.func294, Tryz.ntmps294
  go_wp2
  go_loopw [7, 8, 13] (fun cv bv iv wr => ∃ (k car bor : Nat) (cs : List Nat), iv = .int .i64 k ∧ cv = .int .u64 car ∧ bv = .int .u64 bor ∧ k ≤ wl V + 1 ∧ offAt u V q k bor car cs ∧ Ar 116 wr b o (wl V + 1) c cs ∧ Mod b o (o + (wl V + 1)) w wr) (fun _ _ iv _ => wl V + 1 - (intOf iv).toNat)
  case atStart => exact ⟨0, 0, 0, _, rfl, rfl, rfl, Nat.zero_le _, offAt_zero _ _ _, h, Mod.refl _ _ _ _⟩
  case round =>
    obtain ⟨k, car, bor, cs, rfl, rfl, rfl, hk, hS, hA, hM⟩ := hrel
    have hb1 := hS.1
    have hc1 := hS.2.1
    have R2 := hM.rd h' hne
    have HM := Lib.hid hM
    have hlen := hA.len
    have HL := Lib.hid hlen
    clear hM hlen
    by_cases hlt : k < wl V + 1
    · have f1 := hA.cell k (by omega)
      have f2 := hA.free (o + k)
      rw [hS.2.2.2.2 k (Nat.le_refl _)] at f1
      have l1 := wd_lt h.lim k
      have l2 := wd_lt R2.lim k
      by_cases hlt2 : k < wl V
      · obtain ⟨b', o', rfl, hc'⟩ := R2.cell (by omega)
        have d2 := hc' k hlt2
        clear hc'
        have hm := mul_int hq l2
        by_cases hcmp : (car + q * wd (wds V) k) % 4294967296 + bor ≤ wd u k
        · have hst := offAt_step (bor' := 0) (o := wd u k - (car + q * wd (wds V) k) % 4294967296 - bor) hS hq (by have := HL.out; omega) (by omega) (by omega)
          have hA2 := hA.set k (wd u k - (car + q * wd (wds V) k) % 4294967296 - bor) hlt (by omega)
          go_wp2
          rw [muladd_lo, muladd_hi, sub_plain _ _ _ hcmp, sub_top _ (by omega)]
          go_roundw
          case rel => exact ⟨k + 1, _, _, _, by go_num, rfl, rfl, by omega, hst, hA2, HM.out.setCell (o + k) _ (by omega)⟩
          case measure => simp [intOf]; omega
        · have hst := offAt_step (bor' := 1) (o := 4294967296 + wd u k - (car + q * wd (wds V) k) % 4294967296 - bor) hS hq (by have := HL.out; omega) (by omega) (by omega)
          have hA2 := hA.set k (4294967296 + wd u k - (car + q * wd (wds V) k) % 4294967296 - bor) hlt (by omega)
          go_wp2
          rw [muladd_lo, muladd_hi, sub3_lo _ _ _ l1 (by omega) (by omega), sub3_hi _ _ _ l1 (by omega) (by omega)]
          go_roundw
          case rel => exact ⟨k + 1, _, _, _, by go_num, rfl, rfl, by omega, hst, hA2, HM.out.setCell (o + k) _ (by omega)⟩
          case measure => simp [intOf]; omega
      · have hz : wd (wds V) k = 0 := wd_top (by omega)
        by_cases hcmp : car + bor ≤ wd u k
        · have hst := offAt_step (bor' := 0) (o := wd u k - car - bor) hS hq (by have := HL.out; omega) (by omega) (by rw [hz]; omega)
          rw [hz, show (car + q * 0) / 4294967296 = 0 from by omega] at hst
          have hA2 := hA.set k (wd u k - car - bor) hlt (by omega)
          clear hz
          go_wp2
          rw [show (car : Int) / 4294967296 = ((0 : Nat) : Int) from by omega, sub_plain _ _ _ hcmp, sub_top _ (by omega)]
          go_roundw
          case rel => exact ⟨k + 1, _, _, _, by go_num, rfl, rfl, by omega, hst, hA2, HM.out.setCell (o + k) _ (by omega)⟩
          case measure => simp [intOf]; omega
        · have hst := offAt_step (bor' := 1) (o := 4294967296 + wd u k - car - bor) hS hq (by have := HL.out; omega) (by omega) (by rw [hz]; omega)
          rw [hz, show (car + q * 0) / 4294967296 = 0 from by omega] at hst
          have hA2 := hA.set k (4294967296 + wd u k - car - bor) hlt (by omega)
          clear hz
          go_wp2
          rw [show (car : Int) / 4294967296 = ((0 : Nat) : Int) from by omega, sub3_lo _ _ _ l1 (by omega) (by omega), sub3_hi _ _ _ l1 (by omega) (by omega)]
          go_roundw
          case rel => exact ⟨k + 1, _, _, _, by go_num, rfl, rfl, by omega, hst, hA2, HM.out.setCell (o + k) _ (by omega)⟩
          case measure => simp [intOf]; omega
    · obtain rfl : k = wl V + 1 := by omega
      have hv := Lib.hid (offAt_end hS h.len HL.out rfl hq)
      clear hS
      go_wp2
      go_ret
      exact ⟨cs, bor, rfl, hb1, hv.out, hA, HM.out⟩

theorem nat_back (b o c n V : Nat) (A' : Option Addr) (c' : Nat) (u : List Nat) (w : World) (h : Ar 116 w b o (n + 1) c u) (h' : Rd w A' n c' (wds V)) (hne : 0 < n → ∀ b' o', A' = some ⟨b', o', none⟩ → b' ≠ b) :
    Calls Tryz.prog 295 #[.slice (some ⟨b, o, none⟩) (n + 1) c, .slice A' n c'] w fun e w' => ∃ (l : List Nat) (k : Nat), e = .returned (.tuple #[]) ∧ backAt u V (n + 1) k l ∧ Ar 116 w' b o (n + 1) c l ∧ Mod b o (o + (n + 1)) w w' := by
  obtain rfl : wl V = n := h'.len
  have hbig := h.cap.2.1
  go_enter Tryz.func295, Tryz.ntmps295
  go_wp2
  go_loopw [4, 8] (fun cv iv wr => ∃ (k c2 : Nat) (cs : List Nat), iv = .int .i64 k ∧ cv = .int .u64 c2 ∧ k ≤ wl V + 1 ∧ backAt u V k c2 cs ∧ Ar 116 wr b o (wl V + 1) c cs ∧ Mod b o (o + (wl V + 1)) w wr) (fun _ iv _ => wl V + 1 - (intOf iv).toNat)
  case atStart => exact ⟨0, 0, _, rfl, rfl, Nat.zero_le _, backAt_zero _ _, h, Mod.refl _ _ _ _⟩
  case round =>
    obtain ⟨k, c2, cs, rfl, rfl, hk, hS, hA, hM⟩ := hrel
    have hc1 := hS.1
    have R2 := hM.rd h' hne
    have HM := Lib.hid hM
    have HL := Lib.hid hA.len
    clear hM
    by_cases hlt : k < wl V + 1
    · have f1 := hA.cell k (by omega)
      have f2 := hA.free (o + k)
      rw [hS.2.2 k (Nat.le_refl _)] at f1
      have l1 := wd_lt h.lim k
      have l2 := wd_lt R2.lim k
      have hst := backAt_step hS h.lim (by have := HL.out; omega)
      have hA2 := hA.set k ((c2 + wd u k + wd (wds V) k) % 4294967296) hlt (by omega)
      by_cases hlt2 : k < wl V
      · obtain ⟨b', o', rfl, hc'⟩ := R2.cell (by omega)
        have d2 := hc' k hlt2
        clear hc'
        rw [show (((c2 + wd u k + wd (wds V) k) % 4294967296 : Nat) : Int) = ((c2 : Int) + (wd u k : Nat) + (wd (wds V) k : Nat)) % 4294967296 from by omega] at hA2
        go_wp2
        go_roundw
        case rel => exact ⟨k + 1, _, _, by go_num, by go_num, by omega, hst, hA2, HM.out.setCell (o + k) _ (by omega)⟩
        case measure => simp [intOf]; omega
      · have hz : wd (wds V) k = 0 := wd_top (by omega)
        rw [hz, show (((c2 + wd u k + 0) % 4294967296 : Nat) : Int) = ((c2 : Int) + (wd u k : Nat)) % 4294967296 from by omega] at hA2
        rw [hz] at hst
        clear hz
        go_wp2
        go_roundw
        case rel => exact ⟨k + 1, _, _, by go_num, by go_num, by omega, hst, hA2, HM.out.setCell (o + k) _ (by omega)⟩
        case measure => simp [intOf]; omega
    · obtain rfl : k = wl V + 1 := by omega
      go_wp2
      go_end0
      exact ⟨cs, c2, rfl, hS, hA, HM.out⟩

theorem nat_divide_lt (A A' : Option Addr) (c c' x y : Nat) (w : World) (h : Rd w A (wl x) c (wds x)) (h' : Rd w A' (wl y) c' (wds y)) (hxy : x < y) :
    Calls Tryz.prog 228 #[.slice A (wl x) c, .slice A' (wl y) c'] w fun e w' => ∃ q r, e = .returned (.tuple #[q, r]) ∧ Own 116 w' w.heap.size q (wds (x / y)) ∧ Own 116 w' w.heap.size r (wds (x % y)) ∧ Below w.heap.size w w' := by
  have hcm : cmpN x y < 0 := by rw [cmpN_lt hxy]; omega
  have hd := Lib.hid (Nat.div_eq_of_lt hxy)
  have hm := Lib.hid (Nat.mod_eq_of_lt hxy)
  clear hxy
  go_enter Tryz.func228, Tryz.ntmps228
  go_wp2_with fail
  refine (nat_Compare A A' _ c _ c' x y _ _ _ h h' (val_wds x) (val_wds y)).mono ?_
  rintro e w1 ⟨rfl, n2, rfl⟩
  go_wp2_with fail
  refine (clone A _ c _ _ (h.drewN _)).mono ?_
  rintro e w1 ⟨v, rfl, hO, hB⟩
  go_wp2
  go_ret2
  exact ⟨_, _, rfl, .inl ⟨rfl, by rw [hd.out, wds_zero]⟩, by rw [hm.out]; exact hO, (below_drewN (Below.refl _ _) _).trans hB⟩

set_option maxHeartbeats 400000 in
theorem nat_divide_one (A A' : Option Addr) (c c' x y : Nat) (w : World) (h : Rd w A (wl x) c (wds x)) (h' : Rd w A' (wl y) c' (wds y)) (hy : 0 < y) (hyx : y ≤ x) (h1 : wl y = 1) :
    Calls Tryz.prog 228 #[.slice A (wl x) c, .slice A' (wl y) c'] w fun e w' => ∃ q r, e = .returned (.tuple #[q, r]) ∧ Own 116 w' w.heap.size q (wds (x / y)) ∧ Own 116 w' w.heap.size r (wds (x % y)) ∧ Below w.heap.size w w' := by
  have hcm : 0 ≤ cmpN x y := by unfold cmpN; rw [if_neg (by omega)]; split <;> omega
  have hyB : y < 4294967296 := by have := @wl_le y 1; omega
  obtain ⟨b', o', rfl, hc'⟩ := h'.cell (by omega)
  have d0 : w.cell? ⟨b', o', none⟩ = some (.int .u32 (wd (wds y) 0 : Nat)) := hc' 0 (by omega)
  have hw0 : wd (wds y) 0 = y := by rw [wd_wds]; omega
  rw [hw0] at d0
  have HC := Lib.hid d0
  clear hc' hw0 d0
  have e1 : ((wl y : Int) == 1) = true := by rw [h1]; rfl
  have H1 := Lib.hid h1
  clear h1
  go_enter Tryz.func228, Tryz.ntmps228
  go_wp2_with fail
  refine (nat_Compare A _ _ c _ c' x y _ _ _ h h' (val_wds x) (val_wds y)).mono ?_
  rintro e w1 ⟨rfl, n2, rfl⟩
  go_wp2_with fail
  have d0 := HC.out
  have hxp : 0 < wl x := by have := wl_mono hyx; have := H1.out; omega
  have hyp : 0 < wl y := by have := H1.out; omega
  have hbb : b' < w.heap.size := World.block_lt_of_cell? w _ d0
  go_region_held3 (fun w' => w'.cell? ⟨b', o', none⟩ = some (.int .u32 (y : Nat)))
    (first | exact HC.out | exact d1 | exact d2)
    (first
      | (go_at_call 227; refine (clone A _ c _ _ (h.drewN _)).mono ?_; rintro e w1 ⟨v, rfl, hO, hB⟩; have d1 := cell_of_drewN hB HC.out; obtain ⟨b, o, cc, rfl, hb, hA⟩ := hO.pos hxp)
      | (go_at_call 290; refine (nat_small b o cc y x _ hA hy hyB).mono ?_; rintro e w2 ⟨rfl, hA2, hM⟩; have d2 := (World.cell?_of_block (a := ⟨b', o', none⟩) (hM.block b' (by have hb3 : w.heap.size ≤ b := hb; omega))).trans d1))
  have hry : x % y < y := Nat.mod_lt _ hy
  go_wp2_with fail
  refine (nat_Of (x % y) _ (by omega)).mono ?_
  rintro e w3 ⟨v, rfl, hO3, hB3⟩
  go_wp2
  go_ret2
  have hb3 : w.heap.size ≤ b := hb
  have hB1 : Below w.heap.size w w1 := by
    have := hB
    exact Below.trans (below_drewN (Below.refl _ _) _) this
  exact ⟨_, _, rfl, .inr ⟨b, o, _, _, rfl, hb3, hA2.below hB3⟩, hO3.mono (hB1.trans (hM.below _ hb3)).size, (hB1.trans (hM.below _ hb3)).trans (hB3.mono (hB1.trans (hM.below _ hb3)).size)⟩

theorem bitLenAux_eq (f x : Nat) (h : x < 2 ^ f) : Lib.bitLenAux f x = blen x := by
  induction f generalizing x with
  | zero =>
    have : x = 0 := by simpa using h
    subst this
    simp [Lib.bitLenAux, blen]
  | succ f ih =>
    rw [Lib.bitLenAux]
    split
    · rename_i h0; simp [blen, h0]
    · rename_i h0
      rw [ih (x / 2) (by rw [Nat.pow_succ] at h; omega)]
      unfold blen
      rw [if_neg h0]
      split
      · have : x = 1 := by omega
        subst this; decide
      · rw [Nat.log2_def x, if_pos (by omega)]; omega
theorem bitLen_eq (x : Nat) (h : x < 4294967296) : Lib.bitLen x = blen x := by
  unfold Lib.bitLen
  exact bitLenAux_eq 64 x (by omega)

set_option maxRecDepth 100000 in
set_option maxHeartbeats 1000000 in
theorem nat_divide_two (A A' : Option Addr) (c c' x y : Nat) (w : World) (h : Rd w A (wl x) c (wds x)) (h' : Rd w A' (wl y) c' (wds y)) (hyx : y ≤ x) (h2 : 2 ≤ wl y) (hx : wl x ≤ 8192) :
    Calls Tryz.prog 228 #[.slice A (wl x) c, .slice A' (wl y) c'] w fun e w' => ∃ q r, e = .returned (.tuple #[q, r]) ∧ Own 116 w' w.heap.size q (wds (x / y)) ∧ Own 116 w' w.heap.size r (wds (x % y)) ∧ Below w.heap.size w w' := by
  have hcm : 0 ≤ cmpN x y := by unfold cmpN; rw [if_neg (by omega)]; split <;> omega
  have hwxy := wl_mono hyx
  obtain ⟨b', o', rfl, hc'⟩ := h'.cell (by omega)
  have d0 := hc' (wl y - 1) (by omega)
  have l0 := wd_lt h'.lim (wl y - 1)
  clear hc'
  have e1 : ((wl y : Int) == 1) = false := by simp; omega
  go_enter Tryz.func228, Tryz.ntmps228
  go_wp2_with fail
  refine (nat_Compare A _ _ c _ c' x y _ _ _ h h' (val_wds x) (val_wds y)).mono ?_
  rintro e w1 ⟨rfl, n2, rfl⟩
  go_wp2_with fail
  refine (bits_LeadingZeros32 _ _ (by omega) (by omega)).mono ?_
  rintro e w1 ⟨rfl, rfl⟩
  rw [Int.toNat_natCast, bitLen_eq _ l0]
  have hn0 : Hid ((32 : Int) - (blen (wd (wds y) (wl y - 1)) : Nat) = ((32 - blen (wd (wds y) (wl y - 1)) : Nat) : Int)) := by
    show (32 : Int) - (blen (wd (wds y) (wl y - 1)) : Nat) = ((32 - blen (wd (wds y) (wl y - 1)) : Nat) : Int)
    have := (norm_lz (top_pos (x := y) (fun e => by rw [e, wl_zero] at h2; omega)) l0).2.1
    omega
  rw [hn0.out]
  obtain ⟨n, hn⟩ : ∃ n, n = 32 - blen (wd (wds y) (wl y - 1)) := ⟨_, rfl⟩
  rw [← hn]
  obtain ⟨hn32, hwV, htV⟩ := norm_div (y := y) (fun e => by rw [e, wl_zero] at h2; omega) hn
  clear hn0 hn
  have Hh := h.drewN n2
  have Hh' := h'.drewN n2
  go_wp2_with fail
  refine (nat_up _ c' y n _ Hh' (by omega) hn32).mono ?_
  rintro e w2 ⟨g1, l1, rfl, hg1, hA1, hv1, hB1⟩
  go_wp2_with fail
  refine (nat_cut' _ _ _ (y * 2 ^ n) _ _ hA1.rd hv1).mono ?_
  rintro e w3 ⟨rfl, n3, rfl⟩
  have hA1' := hA1.cut
  rw [hv1] at hA1'
  go_wp2_with fail
  refine (nat_up A c x n _ ((Hh.below hB1).drewN n3) (by omega) hn32).mono ?_
  rintro e w4 ⟨g2, l2, rfl, hg2, hA2, hv2, hB2⟩
  have hl2 := hA2.len
  have HV2 := Lib.hid hv2
  have HV1 := Lib.hid hv1
  clear hv1 hv2 hl2

  have HWV := Lib.hid hwV
  clear hwV
  obtain ⟨i0, hi0, hz0, hz1, hz2⟩ := info_parts u32_info
  have hmk := fun (w : World) => run_make_u32 (P := Tryz.prog) 22 116 i0 Tryz.underlying22 hi0 hz0 hz1 hz2 (wl x + 1 - wl y) ((wl x : Int) + 1 - wl y) (by omega) (by omega) w
  clear hi0 hz0 hz1 hz2
  have ha0 : Ar 116 (w4.alloc (.cells (zeros (wl x + 1 - wl y)) 116)) w4.heap.size 0 (wl x + 1 - wl y) (wl x + 1 - wl y) (List.replicate (wl x + 1 - wl y) 0) := ar_zeros 116 w4 (wl x + 1 - wl y) (by omega)
  generalize hg : w4.heap.size = g at ha0
  generalize hw0 : w4.alloc (.cells (zeros (wl x + 1 - wl y)) 116) = w0 at ha0
  go_wp2_with fail
  have HW0 := Lib.hid hw0
  have HG := Lib.hid hg
  clear hw0 hg
  have hB4 : Below w.heap.size w w4 := ((below_drewN (Below.refl _ _) n2).trans hB1).trans (below_drewN ((hB2.mono (by have := hB1.size; exact this))) 0 |>.trans (Below.refl _ _) |> fun h => ((below_drewN (Below.refl _ _) n3).trans h))
  have hB0 : Below w.heap.size w w0 := by rw [← HW0.out]; exact hB4.alloc hB4.size _
  have HS2 : Hid (w.heap.size ≤ w2.heap.size) := hB1.size
  have ne12 : g1 ≠ g2 := by have := hA1.lt; have h3 : w2.heap.size ≤ g2 := hg2; omega
  have lt2 := hA2.lt
  have ne2g : g2 ≠ g := by have := HG.out; omega
  have ne1g : g1 ≠ g := by
    have := HG.out
    have h3 : w2.heap.size ≤ w4.heap.size := hB2.size
    have := hA1.lt
    omega
  have hV0 : Ar 116 w0 g1 0 (wl y) (wl y + 1) (wds (y * 2 ^ n)) := by
    have hh := hA1'
    rw [HWV.out] at hh
    rw [← HW0.out]
    exact ((hh.drewN n3).below hB2).alloc _
  have hU0 : Ar 116 w0 g2 0 (wl x + 1) (wl x + 1) l2 := by rw [← HW0.out]; exact hA2.alloc _
  have hst0 := divAt_start HV2.out hA2.len hn32 HWV.out (by omega) hwxy htV (q := List.replicate (wl x + 1 - wl y) 0) (by simp)
  clear hB4 hA1 hA1' hA2 hB1 hB2
  go_loopw [11] (fun iv wr => ∃ (k : Nat) (z : Int) (us qs : List Nat), iv = .int .i64 z ∧ z + 1 = k ∧ k ≤ wl x + 1 - wl y ∧ divAt (x * 2 ^ n) (y * 2 ^ n) k us qs ∧ Ar 116 wr g1 0 (wl y) (wl y + 1) (wds (y * 2 ^ n)) ∧ Ar 116 wr g2 0 (wl x + 1) (wl x + 1) us ∧ Ar 116 wr g 0 (wl x + 1 - wl y) (wl x + 1 - wl y) qs ∧ Below w.heap.size w wr) (fun iv _ => (intOf iv + 1).toNat)
  case atStart => exact ⟨wl x + 1 - wl y, _, _, _, rfl, by omega, Nat.le_refl _, hst0, hV0, hU0, ha0, hB0⟩
  case round =>
    clear hst0 hV0 hU0 ha0 hB0
    obtain ⟨k, z, us, qs, rfl, hz, hk, hS, hV, hU, hQ, hB⟩ := hrel
    by_cases hlt : 0 < k
    · obtain ⟨k, rfl⟩ : ∃ m, k = m + 1 := ⟨k - 1, by omega⟩
      obtain rfl : z = k := by omega
      clear hz
      have hlen := hU.len
      obtain ⟨hD, hv1, hv0⟩ := divAt_in hS hU.lim h2 HWV.out htV (by omega)
      have hsub := hU.sub k (k + wl y + 1) (by omega) (by omega)
      rw [Nat.zero_add, show k + wl y + 1 - k = wl y + 1 from by omega] at hsub
      have HH := Lib.hid (And.intro hv1 (And.intro hv0 hlen))
      clear hv1 hv0 hlen
      go_wp2_with fail
      rw [show k + wl y + 1 - k = wl y + 1 from by omega]
      refine (nat_guess g2 k (wl x + 1 - k) (wl y) (y * 2 ^ n) _ (wl y + 1) _ _ hsub hV.rd hD).mono ?_
      rintro e w5 ⟨q, rfl, hqB, hq1, hq2, n5, rfl⟩
      have HQ := Lib.hid (And.intro hq1 hq2)
      clear hq1 hq2
      go_wp2_with fail
      refine (nat_off g2 k (wl x + 1 - k) (wl y) (y * 2 ^ n) q _ (wl y + 1) _ _ (hsub.drewN n5) (hV.rd.drewN n5) (fun _ b'' o'' e => by injection e with e; injection e with e; omega) hqB).mono ?_
      rintro e w6 ⟨p6, bor, rfl, hbor, hval6, hA6, hM6⟩
      have HVAL := Lib.hid hval6
      clear hval6
      have hV6 : Ar 116 w6 g1 0 (wl y) (wl y + 1) (wds (y * 2 ^ n)) := hM6.ar (hV.drewN n5) ne12
      have hQ6 : Ar 116 w6 g 0 (wl x + 1 - wl y) (wl x + 1 - wl y) qs := hM6.ar (hQ.drewN n5) (Ne.symm ne2g)
      have hg2w : w.heap.size ≤ g2 := by
        have h3 : w2.heap.size ≤ g2 := hg2
        have h4 : w.heap.size ≤ w2.heap.size := HS2.out
        omega
      have hB6 : Below w.heap.size w w6 := (below_drewN hB n5).trans (hM6.below _ hg2w)
      have hp6 := hA6.len
      rcases (by omega : bor = 0 ∨ bor = 1) with rfl | rfl
      · obtain ⟨hw, hr⟩ := word_none hD HQ.out HVAL.out
        have hU6 := (hU.drewN n5).put k (wl y + 1) _ (by omega) (by rw [Nat.zero_add]; exact hA6) (by rw [Nat.zero_add]; exact hM6)
        have hQ7 := hQ6.set k q (by omega) hqB
        have f1 := hQ6.cell k (by omega)
        have f2 := hQ6.free k
        rw [Nat.zero_add] at hQ7 f1
        have hst := Lib.hid (divAt_step (p := p6) hS (by have := HH.out.2.2; omega) (by have := hQ.len; omega) hp6 hw hr hD.pos HH.out.1 HH.out.2.1)
        clear hw hr hp6
        go_wp2
        go_roundw
        case rel => exact ⟨k, _, _, _, rfl, by omega, by omega, hst.out, hV6.other _ _ ne1g, hU6.other _ _ ne2g, hQ7, hB6.setCell (by have := HG.out; show w.heap.size ≤ g; omega) _⟩
        case measure => simp [intOf]
      · go_wp2_with fail
        refine (nat_back g2 k (wl x + 1 - k) (wl y) (y * 2 ^ n) _ (wl y + 1) _ _ hA6 hV6.rd (fun _ b'' o'' e => by injection e with e; injection e with e; omega)).mono ?_
        rintro e w7 ⟨p7, cc, rfl, hbk, hA7, hM7⟩
        have hp7 := hA7.len
        have HWB := Lib.hid (word_back hD HQ.out hA6.lim hp6 HVAL.out hbk hA7.lim hp7)
        have hV7 : Ar 116 w7 g1 0 (wl y) (wl y + 1) (wds (y * 2 ^ n)) := hM7.ar hV6 ne12
        have hQ7' : Ar 116 w7 g 0 (wl x + 1 - wl y) (wl x + 1 - wl y) qs := hM7.ar hQ6 (Ne.symm ne2g)
        have hB7 : Below w.heap.size w w7 := hB6.trans (hM7.below _ hg2w)
        have hM8 : Mod g2 k (k + (wl y + 1)) (wr.drewN n5) w7 := hM6.trans hM7
        have hU7 := (hU.drewN n5).put k (wl y + 1) _ (by omega) (by rw [Nat.zero_add]; exact hA7) (by rw [Nat.zero_add]; exact hM8)
        have hq0 : 0 < q := by rw [HWB.out.1]; exact Nat.succ_pos _
        have hQ8 := hQ7'.set k (q - 1) (by omega) (by omega)
        have f1 := hQ7'.cell k (by omega)
        have f2 := hQ7'.free k
        rw [Nat.zero_add, show ((q - 1 : Nat) : Int) = (q : Int) - 1 from by omega] at hQ8
        rw [Nat.zero_add] at f1
        have hst := Lib.hid (divAt_step (w := q - 1) (p := p7) hS (by have := HH.out.2.2; omega) (by have := hQ.len; omega) hp7 (by rw [HWB.out.1, Nat.add_sub_cancel]) HWB.out.2 hD.pos HH.out.1 HH.out.2.1)
        clear hp6 hp7
        go_wp2
        go_roundw
        case rel => exact ⟨k, _, _, _, rfl, by omega, by omega, hst.out, hV7.other _ _ ne1g, hU7.other _ _ ne2g, hQ8, hB7.setCell (by have := HG.out; show w.heap.size ≤ g; omega) _⟩
        case measure => simp [intOf]
    · obtain rfl : k = 0 := by omega
      have hz2 : z < 0 := by omega
      clear hz
      obtain ⟨hq, hr⟩ := divAt_end hS
      obtain ⟨hs1, hs2⟩ := div_shift x y n
      have hRlt : x * 2 ^ n % (y * 2 ^ n) < 4294967296 ^ wl y := by
        have hV2 : y * 2 ^ n < 4294967296 ^ wl y := wl_le.1 (by rw [HWV.out]; exact Nat.le_refl _)
        exact Nat.lt_of_lt_of_le (Nat.mod_lt _ (Nat.lt_of_le_of_lt (Nat.zero_le _) hS.2)) (Nat.le_of_lt hV2)
      have hlen := hU.len
      have hvt : val (us.take (wl y)) = x * 2 ^ n % (y * 2 ^ n) := by rw [val_take_of_lt (by omega) (by rw [hr]; exact hRlt), hr]
      have hT := hU.take (wl y) (by omega)
      have hTc := hT.cut
      rw [hvt] at hTc
      have hQc := hQ.cut
      rw [hq, hs1] at hQc
      rw [hs1] at hq
      have HE := Lib.hid (And.intro hq (And.intro hvt hs2))
      clear hq hr hs1 hs2 hvt hlen hRlt
      go_wp2
      go_region_with (first
        | (go_at_call_of 145 g; refine (nat_cut' _ _ _ (x / y) _ _ (hQ.rd.drewN 1) HE.out.1).mono ?_; rintro e w5 ⟨rfl, n5, rfl⟩)
        | (go_at_call_of 145 g2; refine (nat_cut' _ _ _ (x * 2 ^ n % (y * 2 ^ n)) _ _ (hT.rd.drewN _) HE.out.2.1).mono ?_; rintro e w6 ⟨rfl, n6, rfl⟩)
        | (go_at_call 296; refine (nat_down g2 0 (wl x + 1) (x * 2 ^ n % (y * 2 ^ n)) n _ (hTc.drewN _) hn32).mono ?_; rintro e w7 ⟨rfl, hA7, hM7⟩))
      all_goals
        go_wp2
        go_ret2
        have hg2w : w.heap.size ≤ g2 := by
          have h3 : w2.heap.size ≤ g2 := hg2
          have h4 : w.heap.size ≤ w2.heap.size := HS2.out
          omega
        have hgw : w.heap.size ≤ g := by have := HG.out; have h3 : w2.heap.size ≤ g2 := hg2; omega
        exact ⟨_, _, rfl, .inr ⟨g, 0, _, _, rfl, hgw, hM7.ar (hQc.drewN _) (Ne.symm ne2g)⟩, .inr ⟨g2, 0, _, _, rfl, hg2w, by rw [← HE.out.2.2]; exact hA7⟩, (below_drewN hB _).trans (hM7.below _ hg2w)⟩

theorem nat_divide (A A' : Option Addr) (c c' x y : Nat) (w : World) (h : Rd w A (wl x) c (wds x)) (h' : Rd w A' (wl y) c' (wds y)) (hx : wl x ≤ 8192) (hy : 0 < y) :
    Calls Tryz.prog 228 #[.slice A (wl x) c, .slice A' (wl y) c'] w fun e w' => ∃ q r, e = .returned (.tuple #[q, r]) ∧ Own 116 w' w.heap.size q (wds (x / y)) ∧ Own 116 w' w.heap.size r (wds (x % y)) ∧ Below w.heap.size w w' := by
  rcases Nat.lt_or_ge x y with hl | hl
  · exact nat_divide_lt A A' c c' x y w h h' hl
  · have h0 : wl y ≠ 0 := fun e => by have := wl_eq_zero.1 e; omega
    rcases (by omega : wl y = 1 ∨ 2 ≤ wl y) with h1 | h1
    · exact nat_divide_one A A' c c' x y w h h' hy hl h1
    · exact nat_divide_two A A' c c' x y w h h' hl h1 hx

theorem nat_DivMod (A A' : Option Addr) (c c' x y : Nat) (w : World) (h : Rd w A (wl x) c (wds x)) (h' : Rd w A' (wl y) c' (wds y)) (hx : wl x ≤ 8192) (hy8 : wl y ≤ 8192) (hy : 0 < y) :
    Calls Tryz.prog 195 #[.slice A (wl x) c, .slice A' (wl y) c'] w fun e w' => ∃ q r, e = .returned (.tuple #[q, r, .int .i64 0]) ∧ Own 116 w' w.heap.size q (wds (x / y)) ∧ Own 116 w' w.heap.size r (wds (x % y)) ∧ Below w.heap.size w w' := by
  have h0 : wl y ≠ 0 := fun e => by have := wl_eq_zero.1 e; omega
  have e1 : ((wl y : Int) == 0) = false := by simp; omega
  go_enter Tryz.func195, Tryz.ntmps195
  go_wp2_with fail
  refine (nat_checked A A' c c' x y _ h h' hx hy8).mono ?_
  rintro e w1 ⟨rfl, n1, rfl⟩
  go_wp2_with fail
  refine (nat_divide A A' c c' x y _ (h.drewN _) (h'.drewN _) hx hy).mono ?_
  rintro e w2 ⟨q, r, rfl, hq, hr, hB⟩
  go_wp2
  go_ret3
  exact ⟨_, _, rfl, hq, hr, (below_drewN (Below.refl _ _) _).trans hB⟩
end Go.Proofs.YtcbkijeonilcjaaGreat

/- Package nat: the greatest common divisor, bits, shifts. -/
namespace Go.Proofs.YtcbkijeonilcjaaGreat
open Go.RowKit

theorem Own.wl0 {T : TypeId} {w : World} {base : Nat} {v : Value} {x : Nat} (h : Own T w base v (wds x)) : ∃ A c, v = .slice A (wl x) c ∧ Rd w A (wl x) c (wds x) := by
  obtain ⟨A, n, c, e, hr⟩ := h.rd
  obtain rfl : n = wl x := hr.len.symm
  exact ⟨A, c, e, hr⟩

def gcdAt (x y a b : Nat) : Prop := Nat.gcd a b = Nat.gcd x y ∧ wl a ≤ 8192 ∧ wl b ≤ 8192
theorem gcdAt_step {x y a b : Nat} (h : gcdAt x y a b) (hb : 0 < b) : gcdAt x y b (a % b) ∧ a % b < b := by
  have hlt := Nat.mod_lt a hb
  refine ⟨⟨?_, h.2.2, Nat.le_trans (wl_mono (Nat.le_of_lt hlt)) h.2.2⟩, hlt⟩
  rw [← h.1, Nat.gcd_comm b, ← Nat.gcd_rec, Nat.gcd_comm]

def gcd64 (x y m n : Nat) : Prop := Nat.gcd m n = Nat.gcd x y ∧ m < 18446744073709551616 ∧ n < 18446744073709551616
theorem gcd64_step {x y m n : Nat} (h : gcd64 x y m n) (hn : 0 < n) : gcd64 x y n (m % n) ∧ m % n < n := by
  have hlt := Nat.mod_lt m hn
  refine ⟨⟨?_, h.2.2, Nat.lt_trans hlt h.2.2⟩, hlt⟩
  rw [← h.1, Nat.gcd_comm n, ← Nat.gcd_rec, Nat.gcd_comm]

set_option maxHeartbeats 1000000 in
theorem nat_Gcd (A A' : Option Addr) (c c' x y : Nat) (w : World) (h : Rd w A (wl x) c (wds x)) (h' : Rd w A' (wl y) c' (wds y)) (hx : wl x ≤ 8192) (hy : wl y ≤ 8192) :
    Calls Tryz.prog 149 #[.slice A (wl x) c, .slice A' (wl y) c'] w fun e w' => ∃ v, e = .returned (.tuple #[v, .int .i64 0]) ∧ Own 116 w' w.heap.size v (wds (Nat.gcd x y)) ∧ Below w.heap.size w w' := by
  go_enter Tryz.func149, Tryz.ntmps149
  go_wp2_with fail
  refine (nat_checked A A' c c' x y _ h h' hx hy).mono ?_
  rintro e w1 ⟨rfl, n1, rfl⟩
  go_wp2_with fail
  refine (clone A _ c _ _ (h.drewN _)).mono ?_
  rintro e w2 ⟨v1, rfl, hO1, hB1⟩
  go_wp2_with fail
  refine (clone A' _ c' _ _ ((h'.drewN _).below hB1)).mono ?_
  rintro e w3 ⟨v2, rfl, hO2, hB2⟩
  have hB12 : Below w.heap.size w w2 := (below_drewN (Below.refl _ _) n1).trans hB1
  have hB13 : Below w.heap.size w w3 := hB12.trans (hB2.mono hB12.size)
  have hO1' := hO1.below hB2
  have hO2' := hO2.mono hB12.size
  clear hB1 hB2 hB12 hO1 hO2
  go_wp2
  go_loopg [7, 8] y (fun k xv yv wr => ∃ a, Own 116 wr w.heap.size xv (wds a) ∧ Own 116 wr w.heap.size yv (wds k) ∧ gcdAt x y a k ∧ Below w.heap.size w wr)
  case atStart => exact ⟨x, hO1', hO2', ⟨rfl, hx, hy⟩, hB13⟩
  case round =>
    clear hO1' hO2' hB13
    obtain ⟨a, hOa, hOb, hg, hB⟩ := hrel
    obtain ⟨Aa, ca, rfl, hRa⟩ := hOa.wl0
    obtain ⟨Ab, cb, rfl, hRb⟩ := hOb.wl0
    by_cases hlt : 2 < wl gk
    · have hgk : 0 < gk := by
        rcases Nat.eq_zero_or_pos gk with h0 | h0
        · rw [h0, wl_zero] at hlt; omega
        · exact h0
      obtain ⟨hst, hlt2⟩ := gcdAt_step hg hgk
      go_wp2_with fail
      refine (nat_divide Aa Ab ca cb a gk _ hRa hRb hg.2.1 hgk).mono ?_
      rintro e w4 ⟨q, r, rfl, hq, hr, hB4⟩
      go_wp2
      go_roundg (a % gk)
      case measure => exact hlt2
      case rel => exact ⟨gk, hOb.below hB4, hr.mono hB.size, hst, hB.trans (hB4.mono hB.size)⟩
    · by_cases h0 : wl gk = 0
      · have hz : gk = 0 := wl_eq_zero.1 h0
        have he : Hid (Nat.gcd x y = a) := by rw [← hg.1, hz, Nat.gcd_zero_right]; rfl
        have e1 : ((wl gk : Int) == 0) = true := by rw [h0]; rfl
        clear hz h0
        go_wp2
        go_ret2
        exact ⟨_, rfl, by rw [he.out]; exact hOa, hB⟩
      · have e1 : ((wl gk : Int) == 0) = false := by simp; omega
        have hgk : 0 < gk := by
          rcases Nat.eq_zero_or_pos gk with h2 | h2
          · rw [h2, wl_zero] at h0; omega
          · exact h2
        obtain ⟨hst, hlt2⟩ := gcdAt_step hg hgk
        have hk64 : gk < 18446744073709551616 := by have := @wl_le gk 2; omega
        go_wp2_with fail
        refine (nat_divide Aa Ab ca cb a gk _ hRa hRb hg.2.1 hgk).mono ?_
        rintro e w4 ⟨q, r, rfl, hq, hr, hB4⟩
        obtain ⟨r0, hr0⟩ : ∃ r0, r0 = a % gk := ⟨_, rfl⟩
        rw [← hr0] at hr hst hlt2
        have H64 := Lib.hid (show gcd64 x y gk r0 from ⟨hst.1, hk64, Nat.lt_trans hlt2 hk64⟩)
        clear hr0 hst hk64
        obtain ⟨Ar', cr, rfl, hRr⟩ := hr.wl0
        go_wp2_with fail
        refine (nat_Uint64 Ab _ cb gk _ _ (hRb.below hB4) (val_wds gk) H64.out.2.1).mono ?_
        rintro e w5 ⟨rfl, n5, rfl⟩
        go_wp2_with fail
        refine (nat_Uint64 Ar' _ cr r0 _ _ (hRr.drewN _) (val_wds _) H64.out.2.2).mono ?_
        rintro e w6 ⟨rfl, n6, rfl⟩
        have hB6 : Below w.heap.size w (w4.drewN (n5 + n6)) := below_drewN (hB.trans (hB4.mono hB.size)) _
        go_wp2
        go_loopw [13, 15] (fun mv nv wr => ∃ m n : Nat, mv = .int .u64 m ∧ nv = .int .u64 n ∧ gcd64 x y m n ∧ Below w.heap.size w wr) (fun _ nv _ => (intOf nv).toNat)
        case atStart => exact ⟨gk, r0, rfl, rfl, H64.out, hB6⟩
        case round =>
          clear H64 hB6
          obtain ⟨m, n, rfl, rfl, hgg, hB7⟩ := hrel
          by_cases hn0 : n = 0
          · subst hn0
            have he : Hid (Nat.gcd x y = m) := by show Nat.gcd x y = m; rw [← hgg.1, Nat.gcd_zero_right]
            have hm64 := hgg.2.1
            have HM := Lib.hid hm64
            clear hm64
            go_wp2_with fail
            refine (nat_Of m _ HM.out).mono ?_
            rintro e w8 ⟨v8, rfl, hO8, hB8⟩
            go_wp2
            go_ret2
            exact ⟨_, rfl, by rw [he.out]; exact hO8.mono hB7.size, hB7.trans (hB8.mono hB7.size)⟩
          · have hnp : 0 < n := by omega
            have e2 : ((n : Int) != 0) = true := by rw [bne_iff_ne]; omega
            have HS := Lib.hid (gcd64_step hgg hnp)
            clear hn0 hgg
            go_wp2
            go_quiet (fail)
            go_wp2
            go_roundw
            case rel => exact ⟨n, m % n, rfl, by rw [Int.natCast_emod], HS.out.1, below_drewN hB7 _⟩
            case measure =>
              have := HS.out.2
              simp only [intOf]
              rw [← Int.natCast_emod]
              omega
end Go.Proofs.YtcbkijeonilcjaaGreat
