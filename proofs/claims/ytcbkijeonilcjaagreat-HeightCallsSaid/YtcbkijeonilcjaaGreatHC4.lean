/- Package nat: sums, differences, products. -/
import Derived.Test.YtcbkijeonilcjaaGreatHC3
namespace Go.Proofs.YtcbkijeonilcjaaGreat
open Go.RowKit


set_option maxHeartbeats 400000 in
theorem nat_Add_ge (A A' : Option Addr) (c c' x y : Nat) (w : World) (h : Rd w A (wl x) c (wds x)) (h' : Rd w A' (wl y) c' (wds y)) (hx : wl x ≤ 8192) (hy : wl y ≤ wl x) (hs : wl (x + y) ≤ 8192) :
    Calls Tryz.prog 153 #[.slice A (wl x) c, .slice A' (wl y) c'] w fun e w' => ∃ v, e = .returned (.tuple #[v, .int .i64 0]) ∧ Own 116 w' w.heap.size v (wds (x + y)) ∧ Below w.heap.size w w' := by
  obtain ⟨i0, hi0, hz0, hz1, hz2⟩ := info_parts u32_info
  have hmk := fun (w : World) => run_make_u32 (P := Tryz.prog) 22 116 i0 Tryz.underlying22 hi0 hz0 hz1 hz2 (wl x + 1) ((wl x : Int) + 1) (by omega) (by omega) w
  clear hi0 hz0 hz1 hz2
  have hdec : decide (wl x < wl y) = false := by simp; omega
  go_enter Tryz.func153, Tryz.ntmps153
  go_wp2_with fail
  refine (nat_checked A A' c c' x y _ h h' hx (by omega)).mono ?_
  rintro e w1 ⟨rfl, n1, rfl⟩
  have ha0 : Ar 116 ((w.drewN n1).alloc (.cells (zeros (wl x + 1)) 116)) w.heap.size 0 (wl x + 1) (wl x + 1) (List.replicate (wl x + 1) 0) := ar_zeros 116 (w.drewN n1) (wl x + 1) (by omega)
  have hb0 : Below w.heap.size w ((w.drewN n1).alloc (.cells (zeros (wl x + 1)) 116)) := (below_drewN (Below.refl _ _) n1).alloc (Nat.le_refl _) _
  generalize hg : w.heap.size = g at ha0
  generalize hw0 : (w.drewN n1).alloc (.cells (zeros (wl x + 1)) 116) = w0 at ha0 hb0
  go_wp2
  have HW0 := Lib.hid hw0
  have HG := Lib.hid hg
  clear hw0 hg
  go_loopw [8, 30] (fun cv iv wr => ∃ (k c : Nat) (cs : List Nat), iv = .int .i64 k ∧ cv = .int .u64 c ∧ k ≤ wl x ∧ addAt x y k c cs ∧ Ar 116 wr g 0 (wl x + 1) (wl x + 1) cs ∧ Mod g 0 (wl x + 1) w0 wr) (fun _ iv _ => wl x - (intOf iv).toNat)
  case atStart => exact ⟨0, 0, _, rfl, rfl, Nat.zero_le _, addAt_zero _ _ _, ha0, Mod.refl _ _ _ _⟩
  case round =>
    obtain ⟨k, c, cs, rfl, rfl, hk, hS, hA, hM⟩ := hrel
    have hc1 := hS.1
    have R1 := h.mod hb0 hM (Nat.le_of_eq HG.out)
    have R2 := h'.mod hb0 hM (Nat.le_of_eq HG.out)
    have HM := Lib.hid hM
    clear hM
    by_cases hlt : k < wl x
    · obtain ⟨b, o, rfl, hc⟩ := R1.cell (by omega)
      have d1 := hc k hlt
      have l1 := wd_lt R1.lim k
      have l2 := wd_lt R2.lim k
      have f1 := hA.cell k (by omega)
      have f2 := hA.free k
      rw [Nat.zero_add] at f1
      clear hc
      have hst := addAt_step hS (by have := hA.len; omega)
      have hA2 := hA.set k ((c + wd (wds x) k + wd (wds y) k) % 4294967296) (by omega) (by omega)
      rw [Nat.zero_add, show (((c + wd (wds x) k + wd (wds y) k) % 4294967296 : Nat) : Int) = ((c : Int) + (wd (wds x) k : Nat) + (wd (wds y) k : Nat)) % 4294967296 from by omega] at hA2
      by_cases hlt2 : k < wl y
      · obtain ⟨b', o', rfl, hc'⟩ := R2.cell (by omega)
        have d2 := hc' k hlt2
        clear hc'
        go_wp2
        go_roundw
        case rel => exact ⟨k + 1, _, _, by go_num, by go_num, by omega, hst, hA2, HM.out.setCell k _ (by omega)⟩
        case measure => simp [intOf]; omega
      · have hz : wd (wds y) k = 0 := wd_top (by omega)
        rw [hz] at hA2 hst
        clear hz
        have hA3 : Ar 116 (wr.setCell ⟨g, k, none⟩ (.int .u32 (((c : Int) + (wd (wds x) k : Nat)) % 4294967296))) g 0 (wl x + 1) (wl x + 1) (cs.set k ((c + wd (wds x) k + 0) % 4294967296)) := by simpa using hA2
        clear hA2
        go_wp2
        go_roundw
        case rel => exact ⟨k + 1, _, _, by go_num, by go_num, by omega, hst, hA3, HM.out.setCell k _ (by omega)⟩
        case measure => simp [intOf]; omega
    · obtain rfl : k = wl x := by omega
      have f2 := hA.free (wl x)
      have f1 := hA.cell (wl x) (by omega)
      have hA2 := hA.set (wl x) c (by omega) (by omega)
      rw [Nat.zero_add] at f1 hA2
      have hv := addAt_end hS (Nat.le_refl _) (by omega) hA.len
      have HB2 := Lib.hid (HM.out.setCell (wl x) (.int .u32 (c : Nat)) (by omega))
      go_wp2_with fail
      have hmod : (c : Int) % 4294967296 = c := by omega
      refine (nat_told _ _ _ (x + y) _ _ hA2.rd hv (by omega)).mono ?_
      rintro e w2 ⟨rfl, n2, rfl⟩
      go_wp2
      go_ret2
      have hA3 := hA2.cut
      rw [hv] at hA3
      exact ⟨_, rfl, .inr ⟨_, 0, _, _, rfl, Nat.le_of_eq HG.out, hA3.drewN _⟩, below_drewN (hb0.trans (HB2.out.below _ (Nat.le_of_eq HG.out))) _⟩

set_option maxHeartbeats 400000 in
theorem nat_Add_lt (A A' : Option Addr) (c c' x y : Nat) (w : World) (h : Rd w A (wl x) c (wds x)) (h' : Rd w A' (wl y) c' (wds y)) (hy : wl y ≤ 8192) (hx : wl x < wl y) (hs : wl (y + x) ≤ 8192) :
    Calls Tryz.prog 153 #[.slice A (wl x) c, .slice A' (wl y) c'] w fun e w' => ∃ v, e = .returned (.tuple #[v, .int .i64 0]) ∧ Own 116 w' w.heap.size v (wds (y + x)) ∧ Below w.heap.size w w' := by
  obtain ⟨i0, hi0, hz0, hz1, hz2⟩ := info_parts u32_info
  have hmk := fun (w : World) => run_make_u32 (P := Tryz.prog) 22 116 i0 Tryz.underlying22 hi0 hz0 hz1 hz2 (wl y + 1) ((wl y : Int) + 1) (by omega) (by omega) w
  clear hi0 hz0 hz1 hz2
  have hdec : decide (wl x < wl y) = true := by simp; omega
  go_enter Tryz.func153, Tryz.ntmps153
  go_wp2_with fail
  refine (nat_checked A A' c c' x y _ h h' (by omega) hy).mono ?_
  rintro e w1 ⟨rfl, n1, rfl⟩
  have ha0 : Ar 116 ((w.drewN n1).alloc (.cells (zeros (wl y + 1)) 116)) w.heap.size 0 (wl y + 1) (wl y + 1) (List.replicate (wl y + 1) 0) := ar_zeros 116 (w.drewN n1) (wl y + 1) (by omega)
  have hb0 : Below w.heap.size w ((w.drewN n1).alloc (.cells (zeros (wl y + 1)) 116)) := (below_drewN (Below.refl _ _) n1).alloc (Nat.le_refl _) _
  generalize hg : w.heap.size = g at ha0
  generalize hw0 : (w.drewN n1).alloc (.cells (zeros (wl y + 1)) 116) = w0 at ha0 hb0
  go_wp2
  have HW0 := Lib.hid hw0
  have HG := Lib.hid hg
  clear hw0 hg
  go_loopw [8, 30] (fun cv iv wr => ∃ (k c : Nat) (cs : List Nat), iv = .int .i64 k ∧ cv = .int .u64 c ∧ k ≤ wl y ∧ addAt y x k c cs ∧ Ar 116 wr g 0 (wl y + 1) (wl y + 1) cs ∧ Mod g 0 (wl y + 1) w0 wr) (fun _ iv _ => wl y - (intOf iv).toNat)
  case atStart => exact ⟨0, 0, _, rfl, rfl, Nat.zero_le _, addAt_zero _ _ _, ha0, Mod.refl _ _ _ _⟩
  case round =>
    obtain ⟨k, c, cs, rfl, rfl, hk, hS, hA, hM⟩ := hrel
    have hc1 := hS.1
    have R1 := h'.mod hb0 hM (Nat.le_of_eq HG.out)
    have R2 := h.mod hb0 hM (Nat.le_of_eq HG.out)
    have HM := Lib.hid hM
    clear hM
    by_cases hlt : k < wl y
    · obtain ⟨b, o, rfl, hc⟩ := R1.cell (by omega)
      have d1 := hc k hlt
      have l1 := wd_lt R1.lim k
      have l2 := wd_lt R2.lim k
      have f1 := hA.cell k (by omega)
      have f2 := hA.free k
      rw [Nat.zero_add] at f1
      clear hc
      have hst := addAt_step hS (by have := hA.len; omega)
      have hA2 := hA.set k ((c + wd (wds y) k + wd (wds x) k) % 4294967296) (by omega) (by omega)
      rw [Nat.zero_add, show (((c + wd (wds y) k + wd (wds x) k) % 4294967296 : Nat) : Int) = ((c : Int) + (wd (wds y) k : Nat) + (wd (wds x) k : Nat)) % 4294967296 from by omega] at hA2
      by_cases hlt2 : k < wl x
      · obtain ⟨b', o', rfl, hc'⟩ := R2.cell (by omega)
        have d2 := hc' k hlt2
        clear hc'
        go_wp2
        go_roundw
        case rel => exact ⟨k + 1, _, _, by go_num, by go_num, by omega, hst, hA2, HM.out.setCell k _ (by omega)⟩
        case measure => simp [intOf]; omega
      · have hz : wd (wds x) k = 0 := wd_top (by omega)
        rw [hz] at hA2 hst
        clear hz
        have hA3 : Ar 116 (wr.setCell ⟨g, k, none⟩ (.int .u32 (((c : Int) + (wd (wds y) k : Nat)) % 4294967296))) g 0 (wl y + 1) (wl y + 1) (cs.set k ((c + wd (wds y) k + 0) % 4294967296)) := by simpa using hA2
        clear hA2
        go_wp2
        go_roundw
        case rel => exact ⟨k + 1, _, _, by go_num, by go_num, by omega, hst, hA3, HM.out.setCell k _ (by omega)⟩
        case measure => simp [intOf]; omega
    · obtain rfl : k = wl y := by omega
      have f2 := hA.free (wl y)
      have f1 := hA.cell (wl y) (by omega)
      have hA2 := hA.set (wl y) c (by omega) (by omega)
      rw [Nat.zero_add] at f1 hA2
      have hv := addAt_end hS (Nat.le_refl _) (by omega) hA.len
      have HB2 := Lib.hid (HM.out.setCell (wl y) (.int .u32 (c : Nat)) (by omega))
      go_wp2_with fail
      have hmod : (c : Int) % 4294967296 = c := by omega
      refine (nat_told _ _ _ (y + x) _ _ hA2.rd hv (by omega)).mono ?_
      rintro e w2 ⟨rfl, n2, rfl⟩
      go_wp2
      go_ret2
      have hA3 := hA2.cut
      rw [hv] at hA3
      exact ⟨_, rfl, .inr ⟨_, 0, _, _, rfl, Nat.le_of_eq HG.out, hA3.drewN _⟩, below_drewN (hb0.trans (HB2.out.below _ (Nat.le_of_eq HG.out))) _⟩

theorem nat_Add (A A' : Option Addr) (c c' x y : Nat) (w : World) (h : Rd w A (wl x) c (wds x)) (h' : Rd w A' (wl y) c' (wds y)) (hx : wl x ≤ 8192) (hy : wl y ≤ 8192) (hs : wl (x + y) ≤ 8192) :
    Calls Tryz.prog 153 #[.slice A (wl x) c, .slice A' (wl y) c'] w fun e w' => ∃ v, e = .returned (.tuple #[v, .int .i64 0]) ∧ Own 116 w' w.heap.size v (wds (x + y)) ∧ Below w.heap.size w w' := by
  rcases Nat.lt_or_ge (wl x) (wl y) with hl | hl
  · rw [Nat.add_comm] at hs ⊢
    exact nat_Add_lt A A' c c' x y w h h' hy hl hs
  · exact nat_Add_ge A A' c c' x y w h h' hx hl hs

/-- in place; the second lies elsewhere -/
theorem nat_less (b o c : Nat) (A' : Option Addr) (n' c' x y : Nat) (w : World) (h : Ar 116 w b o (wl x) c (wds x)) (h' : Rd w A' n' c' (wds y)) (hne : 0 < n' → ∀ b' o', A' = some ⟨b', o', none⟩ → b' ≠ b) (hxy : y ≤ x) :
    Calls Tryz.prog 230 #[.slice (some ⟨b, o, none⟩) (wl x) c, .slice A' n' c'] w fun e w' => e = .returned (.slice (some ⟨b, o, none⟩) (wl (x - y)) c) ∧ Ar 116 w' b o (wl (x - y)) c (wds (x - y)) ∧ Mod b o (o + wl x) w w' := by
  obtain rfl : wl y = n' := h'.len
  have hbig := h.cap
  have hbig := h.cap.2.1
  have hn := wl_mono hxy
  go_enter Tryz.func230, Tryz.ntmps230
  go_wp2
  go_loopw [5, 10] (fun cv iv wr => ∃ (k c2 : Nat) (cs : List Nat), iv = .int .i64 k ∧ cv = .int .u64 c2 ∧ k ≤ wl x ∧ subAt x y k c2 cs ∧ (∀ j, k ≤ j → wd cs j = wd (wds x) j) ∧ Ar 116 wr b o (wl x) c cs ∧ Mod b o (o + wl x) w wr) (fun _ iv _ => wl x - (intOf iv).toNat)
  case atStart => exact ⟨0, 0, _, rfl, rfl, Nat.zero_le _, subAt_zero _ _ _, fun _ _ => rfl, h, Mod.refl _ _ _ _⟩
  case round =>
    obtain ⟨k, c2, cs, rfl, rfl, hk, hS, hsame, hA, hM⟩ := hrel
    have hc1 := hS.1
    have R2 := hM.rd h' hne
    have HM := Lib.hid hM
    have HS := Lib.hid hsame
    clear hM hsame
    by_cases hlt : k < wl x
    · have f1 := hA.cell k (by omega)
      have f2 := hA.free (o + k)
      rw [HS.out k (Nat.le_refl _)] at f1
      have l1 := wd_lt (lim_wds x) k
      have l2 := wd_lt R2.lim k
      by_cases hlt2 : k < wl y
      · obtain ⟨b', o', rfl, hc'⟩ := R2.cell (by omega)
        have d2 := hc' k hlt2
        clear hc'
        by_cases hcmp : c2 + wd (wds y) k ≤ wd (wds x) k
        · have hst := subAt_step (c' := 0) (o := wd (wds x) k - c2 - wd (wds y) k) hS (by have := hA.len; omega) (by omega) (by omega)
          have hA2 := hA.set k (wd (wds x) k - c2 - wd (wds y) k) hlt (by omega)
          go_wp2
          rw [sub_plain _ _ _ hcmp, sub_top _ (by omega)]
          go_roundw
          case rel => exact ⟨k + 1, _, _, by go_num, rfl, by omega, hst, wd_set_later _ HS.out, hA2, HM.out.setCell (o + k) _ (by omega)⟩
          case measure => simp [intOf]; omega
        · have hst := subAt_step (c' := 1) (o := 4294967296 + wd (wds x) k - c2 - wd (wds y) k) hS (by have := hA.len; omega) (by omega) (by omega)
          have hA2 := hA.set k (4294967296 + wd (wds x) k - c2 - wd (wds y) k) hlt (by omega)
          go_wp2
          rw [sub2_lo _ _ _ l1 hc1 l2 (by omega), sub2_hi _ _ _ l1 hc1 l2 (by omega)]
          go_roundw
          case rel => exact ⟨k + 1, _, _, by go_num, rfl, by omega, hst, wd_set_later _ HS.out, hA2, HM.out.setCell (o + k) _ (by omega)⟩
          case measure => simp [intOf]; omega
      · have hz : wd (wds y) k = 0 := wd_top (by omega)
        by_cases hcmp : c2 ≤ wd (wds x) k
        · have hst := subAt_step (c' := 0) (o := wd (wds x) k - c2) hS (by have := hA.len; omega) (by omega) (by omega)
          have hA2 := hA.set k (wd (wds x) k - c2) hlt (by omega)
          clear hz
          go_wp2
          rw [sub_plain1 _ _ hcmp, sub_top _ (by omega)]
          go_roundw
          case rel => exact ⟨k + 1, _, _, by go_num, rfl, by omega, hst, wd_set_later _ HS.out, hA2, HM.out.setCell (o + k) _ (by omega)⟩
          case measure => simp [intOf]; omega
        · have hst := subAt_step (c' := 1) (o := 4294967296 + wd (wds x) k - c2) hS (by have := hA.len; omega) (by omega) (by omega)
          have hA2 := hA.set k (4294967296 + wd (wds x) k - c2) hlt (by omega)
          clear hz
          go_wp2
          rw [sub1_lo _ _ l1 hc1 (by omega), sub1_hi _ _ l1 hc1 (by omega)]
          go_roundw
          case rel => exact ⟨k + 1, _, _, by go_num, rfl, by omega, hst, wd_set_later _ HS.out, hA2, HM.out.setCell (o + k) _ (by omega)⟩
          case measure => simp [intOf]; omega
    · obtain rfl : k = wl x := by omega
      have hv := subAt_end hS hxy (Nat.le_refl _) hA.len hA.lim
      have hA3 := hA.cut
      rw [hv] at hA3
      go_wp2_with fail
      refine (nat_cut' _ _ _ (x - y) _ _ hA.rd hv).mono ?_
      rintro e w2 ⟨rfl, n2, rfl⟩
      go_wp2
      go_ret
      exact ⟨rfl, hA3.drewN _, HM.out.drewN _⟩

theorem Own.rd' {T : TypeId} {w : World} {base : Nat} {v : Value} {x : Nat} (h : Own T w base v (wds x)) : ∃ A c, v = .slice A (wl x) c ∧ Rd w A (wl x) c (wds x) ∧ (0 < wl x → ∃ b o, A = some ⟨b, o, none⟩ ∧ base ≤ b ∧ Ar T w b o (wl x) c (wds x)) := by
  rcases h with ⟨rfl, hx⟩ | ⟨b, o, n, c, rfl, hb, h⟩
  · have h0 : wl x = 0 := by rw [wl, hx]; rfl
    exact ⟨none, 0, by rw [h0], by rw [h0, hx]; exact Rd.nil w, fun h => absurd h (by omega)⟩
  · obtain rfl : n = wl x := h.len.symm
    exact ⟨_, c, rfl, h.rd, fun _ => ⟨b, o, rfl, hb, h⟩⟩

theorem nat_less_nil (A' : Option Addr) (n' c' : Nat) (w : World) :
    Calls Tryz.prog 230 #[.slice none 0 0, .slice A' n' c'] w fun e w' => e = .returned (.slice none 0 0) ∧ Drn w w' := by
  go_enter Tryz.func230, Tryz.ntmps230
  go_wp2
  refine wp_loop_rounds 1 ?_
  rw [rounds_succ]
  go_wp2_with fail
  refine (nat_cut' none 0 0 0 [] _ (Rd.nil _) rfl).mono ?_
  rintro e w2 ⟨rfl, n2, rfl⟩
  go_wp2
  go_ret
  exact ⟨by rw [wl_zero]; rfl, (by first | exact ⟨_, rfl⟩ | exact (drn1 _ _).step _ | exact ((drn1 _ _).step _).step _ | (repeat' (first | exact Drn.refl _ | apply Drn.step)))⟩

set_option maxHeartbeats 400000 in
theorem nat_Sub (A A' : Option Addr) (c c' x y : Nat) (w : World) (h : Rd w A (wl x) c (wds x)) (h' : Rd w A' (wl y) c' (wds y)) (hx : wl x ≤ 8192) (hxy : y ≤ x) :
    Calls Tryz.prog 154 #[.slice A (wl x) c, .slice A' (wl y) c'] w fun e w' => ∃ v, e = .returned (.tuple #[v, .int .i64 0]) ∧ Own 116 w' w.heap.size v (wds (x - y)) ∧ Below w.heap.size w w' := by
  have hwy := wl_mono hxy
  have hcm : 0 ≤ cmpN x y := by unfold cmpN; rw [if_neg (by omega)]; split <;> omega
  go_enter Tryz.func154, Tryz.ntmps154
  go_wp2_with fail
  refine (nat_checked A A' c c' x y _ h h' hx (by omega)).mono ?_
  rintro e w1 ⟨rfl, n1, rfl⟩
  go_wp2_with fail
  refine (nat_Compare A A' _ c _ c' x y _ _ _ (h.drewN _) (h'.drewN _) (val_wds x) (val_wds y)).mono ?_
  rintro e w1 ⟨rfl, n2, rfl⟩
  go_wp2_with fail
  refine (clone A _ c _ _ (h.drewN _)).mono ?_
  rintro e w1 ⟨v, rfl, hO, hB⟩
  rcases hO with ⟨rfl, hx0⟩ | ⟨b, o, n, cc, rfl, hb, hA⟩
  · have h0 : wl x = 0 := by rw [wl, hx0]; rfl
    have hxz : x = 0 := wl_eq_zero.1 h0
    have Hxz := Lib.hid hxz
    clear hxz h0 hx0
    go_wp2_with fail
    refine (nat_less_nil A' (wl y) c' _).mono ?_
    rintro e w2 ⟨rfl, n3, rfl⟩
    go_wp2
    go_ret2
    exact ⟨_, rfl, .inl ⟨rfl, by rw [Hxz.out, Nat.zero_sub, wds_zero]⟩, below_drewN ((below_drewN (Below.refl _ _) _).trans hB) _⟩
  · obtain rfl : n = wl x := hA.len.symm
    have hR := (h'.drewN (n1 + n2)).below hB
    go_wp2_with fail
    refine (nat_less b o cc A' (wl y) c' x y _ hA hR ?_ hxy).mono ?_
    · rintro hp b' o' rfl
      have := h'.block hp
      have hb2 : w.heap.size ≤ b := hb
      omega
    rintro e w2 ⟨rfl, hA2, hM⟩
    go_wp2
    go_ret2
    exact ⟨_, rfl, .inr ⟨b, o, _, _, rfl, hb, hA2⟩, ((below_drewN (Below.refl _ _) _).trans hB).trans (hM.below _ hb)⟩

set_option maxHeartbeats 400000 in
theorem nat_Mul (A A' : Option Addr) (c c' x y : Nat) (w : World) (h : Rd w A (wl x) c (wds x)) (h' : Rd w A' (wl y) c' (wds y)) (hx : wl x ≤ 8192) (hy : wl y ≤ 8192) (hs : wl x + wl y ≤ 8192) :
    Calls Tryz.prog 144 #[.slice A (wl x) c, .slice A' (wl y) c'] w fun e w' => ∃ v, e = .returned (.tuple #[v, .int .i64 0]) ∧ Own 116 w' w.heap.size v (wds (x * y)) ∧ Below w.heap.size w w' := by
  by_cases h0 : wl x = 0 ∨ wl y = 0
  · have hz : Hid (wds (x * y) = []) := by
      show wds (x * y) = []
      rcases h0 with h0 | h0
      · rw [wl_eq_zero.1 h0, Nat.zero_mul, wds_zero]
      · rw [wl_eq_zero.1 h0, Nat.mul_zero, wds_zero]
    by_cases h1 : wl x = 0
    · have e1 : ((wl x : Int) == 0) = true := by rw [h1]; rfl
      clear h1 h0
      go_enter Tryz.func144, Tryz.ntmps144
      go_wp2_with fail
      refine (nat_checked A A' c c' x y _ h h' hx hy).mono ?_
      rintro e w1 ⟨rfl, n1, rfl⟩
      go_wp2
      go_ret2
      exact ⟨_, rfl, .inl ⟨rfl, hz.out⟩, below_drewN (Below.refl _ _) _⟩
    · have e1 : ((wl x : Int) == 0) = false := by simp; omega
      have e2 : ((wl y : Int) == 0) = true := by simp; omega
      clear h1 h0
      go_enter Tryz.func144, Tryz.ntmps144
      go_wp2_with fail
      refine (nat_checked A A' c c' x y _ h h' hx hy).mono ?_
      rintro e w1 ⟨rfl, n1, rfl⟩
      go_wp2
      go_ret2
      exact ⟨_, rfl, .inl ⟨rfl, hz.out⟩, below_drewN (Below.refl _ _) _⟩
  have e1 : ((wl x : Int) == 0) = false := by simp; omega
  have e2 : ((wl y : Int) == 0) = false := by simp; omega
  have p1 : 0 < wl x := by omega
  have p2 : 0 < wl y := by omega
  clear h0
  obtain ⟨i0, hi0, hz0, hz1, hz2⟩ := info_parts u32_info
  have hmk := fun (w : World) => run_make_u32 (P := Tryz.prog) 22 116 i0 Tryz.underlying22 hi0 hz0 hz1 hz2 (wl x + wl y) ((wl x : Int) + wl y) (by omega) (by omega) w
  clear hi0 hz0 hz1 hz2
  have hdec : decide (8193 < (wl x : Int) + wl y) = false := by simp; omega
  go_enter Tryz.func144, Tryz.ntmps144
  go_wp2_with fail
  refine (nat_checked A A' c c' x y _ h h' hx hy).mono ?_
  rintro e w1 ⟨rfl, n1, rfl⟩
  have ha0 : Ar 116 ((w.drewN n1).alloc (.cells (zeros (wl x + wl y)) 116)) w.heap.size 0 (wl x + wl y) (wl x + wl y) (List.replicate (wl x + wl y) 0) := ar_zeros 116 (w.drewN n1) (wl x + wl y) (by omega)
  have hb0 : Below w.heap.size w ((w.drewN n1).alloc (.cells (zeros (wl x + wl y)) 116)) := (below_drewN (Below.refl _ _) n1).alloc (Nat.le_refl _) _
  generalize hg : w.heap.size = g at ha0
  generalize hw0 : (w.drewN n1).alloc (.cells (zeros (wl x + wl y)) 116) = w0 at ha0 hb0
  go_wp2
  have HW0 := Lib.hid hw0
  have HG := Lib.hid hg
  clear hw0 hg
  go_loopw [41] (fun iv wr => ∃ (i : Nat) (cs : List Nat), iv = .int .i64 i ∧ i ≤ wl x ∧ rowAt x y i cs ∧ Ar 116 wr g 0 (wl x + wl y) (wl x + wl y) cs ∧ Mod g 0 (wl x + wl y) w0 wr) (fun iv _ => wl x - (intOf iv).toNat)
  case atStart => exact ⟨0, _, rfl, Nat.zero_le _, rowAt_zero _ _ _, ha0, Mod.refl _ _ _ _⟩
  case round =>
    obtain ⟨i, cs, rfl, hi, hS, hA, hM⟩ := hrel
    have R1 := h.mod hb0 hM (Nat.le_of_eq HG.out)
    have HM := Lib.hid hM
    clear hM
    by_cases hlt : i < wl x
    · obtain ⟨b, o, rfl, hc⟩ := R1.cell (by omega)
      have d1 := hc i hlt
      have l1 := wd_lt R1.lim i
      clear hc
      obtain ⟨wo, rfl⟩ : ∃ wo : World, wo = wr := ⟨_, rfl⟩
      go_wp2
      go_loopw [10, 48] (fun cv kv wr => ∃ (k c2 : Nat) (cs : List Nat), kv = .int .i64 k ∧ cv = .int .u64 c2 ∧ k ≤ wl y ∧ mulAt x y i k c2 cs ∧ Ar 116 wr g 0 (wl x + wl y) (wl x + wl y) cs ∧ Mod g 0 (wl x + wl y) w0 wr) (fun _ kv _ => wl y - (intOf kv).toNat)
      case atStart => exact ⟨0, 0, _, rfl, rfl, Nat.zero_le _, mulAt_zero hS, hA, HM.out⟩
      case round =>
        clear hA HM R1 d1 hS
        obtain ⟨k, c2, cs2, rfl, rfl, hk, hS2, hA2, hM2⟩ := hrel
        have R2 := h'.mod hb0 hM2 (Nat.le_of_eq HG.out)
        have HM2 := Lib.hid hM2
        clear hM2
        have hc1 := hS2.1
        by_cases hlt2 : k < wl y
        · obtain ⟨b', o', rfl, hc'⟩ := R2.cell (by omega)
          have d2 := hc' k hlt2
          have l2 := wd_lt R2.lim k
          clear hc'
          have f1 := hA2.cell (i + k) (by omega)
          have f2 := hA2.free (i + k)
          rw [Nat.zero_add] at f1
          have l3 := wd_lt hA2.lim (i + k)
          have hpr := mul_int l1 l2
          have hst := mulAt_step hS2 hlt2 (by have := hA2.len; omega) hA2.lim
          have hA3 := hA2.set (i + k) ((wd (wds x) i * wd (wds y) k + wd cs2 (i + k) + c2) % 4294967296) (by omega) (by omega)
          rw [Nat.zero_add] at hA3
          go_wp2
          rw [mul_lo, mul_hi]
          go_roundw
          case rel => exact ⟨k + 1, _, _, by go_num, rfl, by omega, hst, hA3, HM2.out.setCell (i + k) _ (by omega)⟩
          case measure => simp [intOf]; omega
        · obtain rfl : k = wl y := by omega
          have f1 := hA2.cell (i + wl y) (by omega)
          have f2 := hA2.free (i + wl y)
          have hA3 := hA2.set (i + wl y) c2 (by omega) hc1
          rw [Nat.zero_add] at f1 hA3
          have hst := mulAt_end hS2 (by have := hA2.len; omega)
          go_wp2
          go_roundw
          case rel => exact ⟨i + 1, _, by go_num, by omega, hst, hA3, HM2.out.setCell (i + wl y) _ (by omega)⟩
          case measure => simp [intOf]; omega
    · obtain rfl : i = wl x := by omega
      have hv := rowAt_end hS (Nat.le_refl _)
      have hw := wl_mul x y
      have hA3 := hA.cut
      rw [hv] at hA3
      go_wp2_with fail
      refine (nat_told _ _ _ (x * y) _ _ hA.rd hv (by omega)).mono ?_
      rintro e w2 ⟨rfl, n2, rfl⟩
      go_wp2
      go_ret2
      exact ⟨_, rfl, .inr ⟨_, 0, _, _, rfl, Nat.le_of_eq HG.out, hA3.drewN _⟩, below_drewN (hb0.trans (HM.out.below _ (Nat.le_of_eq HG.out))) _⟩
end Go.Proofs.YtcbkijeonilcjaaGreat

/- Package nat: division by a word, shifts by less than a word. -/
namespace Go.Proofs.YtcbkijeonilcjaaGreat
open Go.RowKit

theorem small_lo (a r d : Nat) (hr : r < d) (ha : a < 4294967296) : ((a : Int) + 4294967296 * r) / d % 4294967296 = (((r * 4294967296 + a) / d : Nat) : Int) := by
  have h := small_word hr ha
  have e : ((a : Int) + 4294967296 * r) / d = (((r * 4294967296 + a) / d : Nat) : Int) := by
    rw [Int.natCast_ediv]; congr 1; omega
  rw [e]
  generalize (r * 4294967296 + a) / d = q at *
  omega
theorem small_rem (a r d : Nat) : ((a : Int) + 4294967296 * r) % d = (((r * 4294967296 + a) % d : Nat) : Int) := by
  rw [Int.natCast_emod]; congr 1; omega
theorem or_word' (a b : Nat) (ha : a < 4294967296) (hb : b < 4294967296) : bits .or .u64 ((b : Int) * 4294967296) (a : Int) = (a : Int) + 4294967296 * b := by
  rw [or_join' a b ha hb]; omega

theorem pow_lt_32 {n : Nat} (hn : n < 32) : 2 ^ n < 4294967296 := by
  have := Nat.pow_lt_pow_right (a := 2) (by omega) hn
  omega
theorem wrap_up (w n : Nat) (hn : n < 32) (hw : w < 4294967296) : IntKind.u64.wrap ((w : Int) * 2 ^ n) = ((w * 2 ^ n : Nat) : Int) := by
  have h1 := pow_lt_32 hn
  have h2 : w * 2 ^ n ≤ 4294967295 * 4294967295 := Nat.mul_le_mul (by omega) (by omega)
  have e : (w : Int) * 2 ^ n = ((w * 2 ^ n : Nat) : Int) := by rw [Int.natCast_mul, Int.natCast_pow]; rfl
  rw [e, wrap_u64']
  generalize w * 2 ^ n = t at *
  omega
theorem up_lo (o w n : Nat) (ho : o < 2 ^ n) (hn : n < 32) (hw : w < 4294967296) :
    bits .or .u32 (o : Int) (IntKind.u64.wrap ((w : Int) * 2 ^ n) % 4294967296) = ((w * 2 ^ n % 4294967296 + o : Nat) : Int) := by
  obtain ⟨h1, h2, _⟩ := up_word hn hw ho
  have h3 := pow_lt_32 hn
  rw [wrap_up w n hn hw, show ((w * 2 ^ n : Nat) : Int) % 4294967296 = ((w * 2 ^ n % 4294967296 : Nat) : Int) from by rw [Int.natCast_emod]; rfl]
  rw [← h1, Nat.or_comm]
  have hx : o ||| w * 2 ^ n % 4294967296 < 2 ^ 32 := by rw [Nat.or_comm, h1]; omega
  show IntKind.u32.wrap ((BitVec.ofInt 32 (o : Int) ||| BitVec.ofInt 32 ((w * 2 ^ n % 4294967296 : Nat) : Int)).toNat : Int) = _
  rw [BitVec.toNat_or, BitVec.ofInt_natCast, BitVec.toNat_ofNat, BitVec.ofInt_natCast, BitVec.toNat_ofNat, Nat.mod_eq_of_lt (show o < 2 ^ 32 by omega), Nat.mod_eq_of_lt (show w * 2 ^ n % 4294967296 < 2 ^ 32 by omega), IntKind.wrap_u32]
  omega
theorem up_hi (w n : Nat) (hn : n < 32) (hw : w < 4294967296) : IntKind.u64.wrap ((w : Int) * 2 ^ n) / 4294967296 % 4294967296 = ((w * 2 ^ n / 4294967296 : Nat) : Int) := by
  have h1 := pow_lt_32 hn
  have h2 : w * 2 ^ n ≤ 4294967295 * 4294967295 := Nat.mul_le_mul (by omega) (by omega)
  rw [wrap_up w n hn hw]
  generalize w * 2 ^ n = t at *
  omega

theorem down_lo (a b n : Nat) (ha : a < 4294967296) (hb : b < 4294967296) : bits .or .u64 (a : Int) ((b : Int) * 4294967296) / 2 ^ n % 4294967296 = (((a + 4294967296 * b) / 2 ^ n % 4294967296 : Nat) : Int) := by
  rw [or_join a b ha hb, Int.natCast_emod, Int.natCast_ediv, Int.natCast_pow]; rfl
theorem down_lo1 (a n : Nat) : (a : Int) / 2 ^ n % 4294967296 = (((a + 4294967296 * 0) / 2 ^ n % 4294967296 : Nat) : Int) := by
  rw [Nat.mul_zero, Nat.add_zero, Int.natCast_emod, Int.natCast_ediv, Int.natCast_pow]; rfl

theorem wrap_div (t v : Nat) (ht : t < 18446744073709551616) : IntKind.u64.wrap ((t : Int) / v) = ((t / v : Nat) : Int) := by
  have h : t / v ≤ t := Nat.div_le_self _ _
  rw [← Int.natCast_ediv, wrap_u64']
  generalize t / v = q at *
  omega
theorem mul_int2 {a b : Nat} (ha : a ≤ 4294967297) (hb : b < 4294967296) : (0 : Int) ≤ (a : Int) * b ∧ (a : Int) * b ≤ 18446744073709551615 := by
  have h1 : a * b ≤ 4294967297 * 4294967295 := Nat.mul_le_mul (by omega) (by omega)
  have h2 : ((a * b : Nat) : Int) = (a : Int) * b := by simp
  omega

/-- by one word, in place -/
theorem nat_small (b o c d x : Nat) (w : World) (h : Ar 116 w b o (wl x) c (wds x)) (hd0 : 0 < d) (hd : d < 4294967296) :
    Calls Tryz.prog 290 #[.slice (some ⟨b, o, none⟩) (wl x) c, .int .u32 d] w fun e w' => e = .returned (.tuple #[.slice (some ⟨b, o, none⟩) (wl (x / d)) c, .int .u32 (x % d : Nat)]) ∧ Ar 116 w' b o (wl (x / d)) c (wds (x / d)) ∧ Mod b o (o + wl x) w w' := by
  have hbig := h.cap.2.1
  go_enter Tryz.func290, Tryz.ntmps290
  go_wp2
  go_loopw [6, 7] (fun rv iv wr => ∃ (k r : Nat) (z : Int) (cs : List Nat), iv = .int .i64 z ∧ z + 1 = k ∧ rv = .int .u64 r ∧ k ≤ wl x ∧ smallAt x d k r cs ∧ Ar 116 wr b o (wl x) c cs ∧ Mod b o (o + wl x) w wr) (fun _ iv _ => (intOf iv + 1).toNat)
  case atStart => exact ⟨wl x, 0, _, _, rfl, by omega, rfl, Nat.le_refl _, smallAt_start hd0 rfl, h, Mod.refl _ _ _ _⟩
  case round =>
    obtain ⟨k, r, z, cs, rfl, hz, rfl, hk, hS, hA, hM⟩ := hrel
    have hr := hS.1
    have HM := Lib.hid hM
    clear hM
    by_cases hlt : 0 < k
    · obtain ⟨k, rfl⟩ : ∃ m, k = m + 1 := ⟨k - 1, by omega⟩
      obtain rfl : z = k := by omega
      clear hz
      have f1 := hA.cell k (by omega)
      have f2 := hA.free (o + k)
      have l1 := wd_lt hA.lim k
      have hor := or_word' (wd cs k) r l1 (by omega)
      have hst := smallAt_step hS (by have := hA.len; omega)
      have hA2 := hA.set k _ (by omega) (small_word hr l1)
      go_wp2
      rw [small_lo _ _ _ hr l1, small_rem]
      go_roundw
      case rel => exact ⟨k, _, _, _, rfl, by omega, rfl, by omega, hst, hA2, HM.out.setCell (o + k) _ (by omega)⟩
      case measure => simp [intOf]
    · obtain rfl : k = 0 := by omega
      obtain ⟨hv, hr2⟩ := smallAt_end hS
      have hA3 := hA.cut
      rw [hv] at hA3
      have hz2 : z < 0 := by omega
      clear hz
      subst hr2
      go_wp2_with fail
      refine (nat_cut' _ _ _ (x / d) _ _ hA.rd hv).mono ?_
      rintro e w2 ⟨rfl, n2, rfl⟩
      go_wp2
      go_ret2
      exact ⟨rfl, hA3.drewN _, HM.out.drewN _⟩

/-- shifted by less than a word, with a word more -/
theorem nat_up (A : Option Addr) (c x n : Nat) (w : World) (h : Rd w A (wl x) c (wds x)) (hx : wl x ≤ 100000) (hn : n < 32) :
    Calls Tryz.prog 292 #[.slice A (wl x) c, .int .u64 n] w fun e w' => ∃ b l, e = .returned (.slice (some ⟨b, 0, none⟩) (wl x + 1) (wl x + 1)) ∧ w.heap.size ≤ b ∧ Ar 116 w' b 0 (wl x + 1) (wl x + 1) l ∧ val l = x * 2 ^ n ∧ Below w.heap.size w w' := by
  obtain ⟨i0, hi0, hz0, hz1, hz2⟩ := info_parts u32_info
  have hmk := fun (w : World) => run_make_u32 (P := Tryz.prog) 22 116 i0 Tryz.underlying22 hi0 hz0 hz1 hz2 (wl x + 1) ((wl x : Int) + 1) (by omega) (by omega) w
  clear hi0 hz0 hz1 hz2
  have ha0 : Ar 116 (w.alloc (.cells (zeros (wl x + 1)) 116)) w.heap.size 0 (wl x + 1) (wl x + 1) (List.replicate (wl x + 1) 0) := ar_zeros 116 w (wl x + 1) (by omega)
  have hb0 : Below w.heap.size w (w.alloc (.cells (zeros (wl x + 1)) 116)) := (Below.refl _ _).alloc (Nat.le_refl _) _
  generalize hg : w.heap.size = g at ha0
  generalize hw0 : w.alloc (.cells (zeros (wl x + 1)) 116) = w0 at ha0 hb0
  go_enter Tryz.func292, Tryz.ntmps292
  go_wp2
  have HW0 := Lib.hid hw0
  have HG := Lib.hid hg
  clear hw0 hg
  go_loopw [15] (fun iv wr => ∃ (k : Nat) (cs : List Nat), iv = .int .i64 k ∧ k ≤ wl x ∧ upAt x n k cs ∧ (∀ j, k < j → wd cs j = 0) ∧ Ar 116 wr g 0 (wl x + 1) (wl x + 1) cs ∧ Mod g 0 (wl x + 1) w0 wr) (fun iv _ => wl x - (intOf iv).toNat)
  case atStart => exact ⟨0, _, rfl, Nat.zero_le _, upAt_zero _ _ _, fun _ _ => wd_replicate _ _, ha0, Mod.refl _ _ _ _⟩
  case round =>
    obtain ⟨k, cs, rfl, hk, hS, hz, hA, hM⟩ := hrel
    have R1 := h.mod hb0 hM (Nat.le_of_eq HG.out)
    have HM := Lib.hid hM
    have HZ := Lib.hid hz
    clear hM hz
    by_cases hlt : k < wl x
    · obtain ⟨b, o, rfl, hc⟩ := R1.cell (by omega)
      have d1 := hc k hlt
      have l1 := wd_lt R1.lim k
      clear hc
      have f1 := hA.cell k (by omega)
      have f2 := hA.free k
      have f3 := hA.cell (k + 1) (by omega)
      have f4 := hA.free (k + 1)
      have l2 := wd_lt hA.lim k
      rw [Nat.zero_add] at f1 f3
      have ho := hS.2
      have hu := up_word hn l1 ho
      have hst := upAt_step hS hn (by have := hA.len; omega)
      have hA2 := hA.set k _ (by omega) hu.2.1
      have hA3 := hA2.set (k + 1) (wd (wds x) k * 2 ^ n / 4294967296) (by omega) (Nat.lt_trans hu.2.2 (pow_lt_32 hn))
      rw [Nat.zero_add, Nat.zero_add] at hA3
      have HH := Lib.hid (And.intro ho (And.intro hu (And.intro hst hA3)))
      clear hu hst hA2 hA3 ho
      go_wp2
      obtain ⟨ho, hu, hst, hA3⟩ := HH.out
      rw [up_lo _ _ _ ho hn l1, up_hi _ _ hn l1]
      go_roundw
      case rel => exact ⟨k + 1, _, by go_num, by omega, hst, fun j hj => by rw [wd_set_ne _ (by omega), wd_set_ne _ (by omega)]; exact HZ.out j (by omega), hA3, (HM.out.setCell k _ (by omega)).setCell (k + 1) _ (by omega)⟩
      case measure => simp [intOf]; omega
    · obtain rfl : k = wl x := by omega
      have hv := upAt_end hS (Nat.le_refl _) hA.len
      go_wp2
      go_ret
      exact ⟨g, cs, rfl, Nat.le_refl _, hA, hv, by rw [HG.out] at hb0; exact hb0.trans (HM.out.below _ (Nat.le_refl _))⟩

/-- shifted down by less than a word, in place -/
theorem nat_down (b o c x n : Nat) (w : World) (h : Ar 116 w b o (wl x) c (wds x)) (hn : n < 32) :
    Calls Tryz.prog 296 #[.slice (some ⟨b, o, none⟩) (wl x) c, .int .u64 n] w fun e w' => e = .returned (.slice (some ⟨b, o, none⟩) (wl (x / 2 ^ n)) c) ∧ Ar 116 w' b o (wl (x / 2 ^ n)) c (wds (x / 2 ^ n)) ∧ Mod b o (o + wl x) w w' := by
  have hbig := h.cap.2.1
  go_enter Tryz.func296, Tryz.ntmps296
  go_wp2
  go_loopw [9] (fun iv wr => ∃ (k : Nat) (cs : List Nat), iv = .int .i64 k ∧ k ≤ wl x ∧ downAt x n k cs ∧ Ar 116 wr b o (wl x) c cs ∧ Mod b o (o + wl x) w wr) (fun iv _ => wl x - (intOf iv).toNat)
  case atStart => exact ⟨0, _, rfl, Nat.zero_le _, downAt_zero _ _, h, Mod.refl _ _ _ _⟩
  case round =>
    obtain ⟨k, cs, rfl, hk, hS, hA, hM⟩ := hrel
    have HM := Lib.hid hM
    clear hM
    by_cases hlt : k < wl x
    · have f1 := hA.cell k (by omega)
      have f2 := hA.free (o + k)
      have l1 := wd_lt (lim_wds x) k
      have l2 := wd_lt (lim_wds x) (k + 1)
      rw [hS.2 k (Nat.le_refl _)] at f1
      by_cases hlt2 : k + 1 < wl x
      · have f3 := hA.cell (k + 1) (by omega)
        rw [hS.2 (k + 1) (by omega)] at f3
        have HH := Lib.hid (And.intro (downAt_step hS hn (by have := hA.len; omega)) (hA.set k ((wd (wds x) k + 4294967296 * wd (wds x) (k + 1)) / 2 ^ n % 4294967296) hlt (by omega)))
        go_wp2
        rw [down_lo _ _ _ l1 l2]
        go_roundw
        case rel => exact ⟨k + 1, _, by go_num, by omega, HH.out.1, HH.out.2, HM.out.setCell (o + k) _ (by omega)⟩
        case measure => simp [intOf]; omega
      · have hz : wd (wds x) (k + 1) = 0 := wd_top (by omega)
        have hst := downAt_step hS hn (by have := hA.len; omega)
        rw [hz] at hst
        have HH := Lib.hid (And.intro hst (hA.set k ((wd (wds x) k + 4294967296 * 0) / 2 ^ n % 4294967296) hlt (by omega)))
        clear hz hst
        go_wp2
        rw [down_lo1]
        go_roundw
        case rel => exact ⟨k + 1, _, by go_num, by omega, HH.out.1, HH.out.2, HM.out.setCell (o + k) _ (by omega)⟩
        case measure => simp [intOf]; omega
    · obtain rfl : k = wl x := by omega
      have hl := hA.len
      rw [← hl] at hS
      have hv := downAt_end hS (by omega)
      have hA3 := hA.cut
      rw [hv] at hA3
      have HV := Lib.hid hv
      clear hl hS hv
      go_wp2_with fail
      refine (nat_cut' _ _ _ (x / 2 ^ n) _ _ hA.rd HV.out).mono ?_
      rintro e w2 ⟨rfl, n2, rfl⟩
      go_wp2
      go_ret
      exact ⟨rfl, hA3.drewN _, HM.out.drewN _⟩

/-- how often the divisor may go into the stretch -/
theorem nat_guess (b o c n V : Nat) (A' : Option Addr) (c' : Nat) (u : List Nat) (w : World) (h : Ar 116 w b o (n + 1) c u) (h' : Rd w A' n c' (wds V)) (hD : DivIn u V n) :
    Calls Tryz.prog 293 #[.slice (some ⟨b, o, none⟩) (n + 1) c, .slice A' n c'] w fun e w' => ∃ q : Nat, e = .returned (.int .u64 q) ∧ q < 4294967296 ∧ val u / V ≤ q ∧ q ≤ val u / V + 1 ∧ Drn w w' := by
  have hn2 := hD.two
  have hbig := h.cap.2.1
  obtain ⟨b', o', rfl, hc'⟩ := h'.cell (by omega)
  have d1 := h.cell n (by omega)
  have d2 := h.cell (n - 1) (by omega)
  have d3 := h.cell (n - 2) (by omega)
  have e1 := hc' (n - 1) (by omega)
  have e2 := hc' (n - 2) (by omega)
  have l1 := wd_lt hD.lim n
  have l2 := wd_lt hD.lim (n - 1)
  have l3 := wd_lt hD.lim (n - 2)
  have m1 := wd_lt h'.lim (n - 1)
  have m2 := wd_lt h'.lim (n - 2)
  have ht := hD.top
  clear hc'
  have hor : bits .or .u64 (((wd u n : Nat) : Int) * 4294967296) ((wd u (n - 1) : Nat) : Int) = ((topOf u n : Nat) : Int) := by
    rw [or_join' _ _ l2 l1, topOf]; omega
  have htop := Lib.hid hD.top_lt.2
  have hG := Lib.hid (guess_start hD)
  have hD' := Lib.hid hD
  clear hD
  go_enter Tryz.func293, Tryz.ntmps293
  go_wp2
  go_quiet (fail)
  go_wp2
  go_quiet (fail)
  go_wp2
  go_loopw [7, 8] (fun qv rv wr => ∃ q r : Nat, qv = .int .u64 q ∧ rv = .int .u64 r ∧ guessAt u V n q r ∧ Drn w wr) (fun qv _ _ => (intOf qv).toNat)
  case atStart => exact ⟨topOf u n / wd (wds V) (n - 1), topOf u n % wd (wds V) (n - 1), by rw [wrap_div _ _ htop.out], by rw [Int.natCast_emod], hG.out, (by first | exact ⟨_, rfl⟩ | exact (drn1 _ _).step _ | exact ((drn1 _ _).step _).step _ | (repeat' (first | exact Drn.refl _ | apply Drn.step)))⟩
  case round =>
    obtain ⟨q, r, rfl, rfl, hg, n3, rfl⟩ := hrel
    have hq1 := hg.2.2.1
    have hr1 := hg.2.2.2
    have hgg := Lib.hid hg
    clear hg hor
    have hm := mul_int2 hq1 m2
    have hor2 := or_word' (wd u (n - 2)) r l3 hr1
    by_cases hq : 4294967296 ≤ q
    · have hb1 : ((q : Int) / 4294967296 != 0) = true := by rw [bne_iff_ne]; omega
      have hcnd := Lib.hid (Or.inl hq : 4294967296 ≤ q ∨ r * 4294967296 + wd u (n - 2) < q * wd (wds V) (n - 2))
      have hlow := guess_lower hD'.out hgg.out hcnd.out
      have hq0 := hlow.1
      have hlow2 := Lib.hid hlow.2
      clear hlow
      by_cases hr2 : r + wd (wds V) (n - 1) < 4294967296
      · have hb2 : (((r : Int) + (wd (wds V) (n - 1) : Nat)) / 4294967296 != 0) = false := by rw [bne_eq_false_iff_eq]; omega
        have hd := Lib.hid (guess_dec hD'.out hgg.out hcnd.out hr2)
        go_wp2
        go_quiet (fail)
        go_wp2
        go_roundw
        case rel => exact ⟨q - 1, r + wd (wds V) (n - 1), by go_num, by go_num, hd.out, (by first | exact ⟨_, rfl⟩ | exact (drn1 _ _).step _ | exact ((drn1 _ _).step _).step _ | (repeat' (first | exact Drn.refl _ | apply Drn.step)))⟩
        case measure => simp [intOf]; omega
      · have hb2 : (((r : Int) + (wd (wds V) (n - 1) : Nat)) / 4294967296 != 0) = true := by rw [bne_iff_ne]; omega
        have hend := Lib.hid (guess_end (q := q - 1) (r := r + wd (wds V) (n - 1)) hD'.out (by
          have h1 := hgg.out.1
          obtain ⟨p, rfl⟩ : ∃ p, q = p + 1 := ⟨q - 1, by omega⟩
          rw [Nat.add_mul] at h1
          rw [Nat.add_sub_cancel]; omega) hlow2.out (.inr (by omega)))
        go_wp2
        go_quiet (fail)
        go_wp2
        go_ret
        exact ⟨q - 1, by go_num, hend.out.1, hend.out.2.1, hend.out.2.2, (by first | exact ⟨_, rfl⟩ | exact (drn1 _ _).step _ | exact ((drn1 _ _).step _).step _ | (repeat' (first | exact Drn.refl _ | apply Drn.step)))⟩
    · have hb1 : ((q : Int) / 4294967296 != 0) = false := by rw [bne_eq_false_iff_eq]; omega
      by_cases hc : (wd u (n - 2) : Int) + 4294967296 * r < q * (wd (wds V) (n - 2) : Nat)
      · have hcnd := Lib.hid (Or.inr (by have h2 : ((q * wd (wds V) (n - 2) : Nat) : Int) = (q : Int) * (wd (wds V) (n - 2) : Nat) := by simp
                                         omega) : 4294967296 ≤ q ∨ r * 4294967296 + wd u (n - 2) < q * wd (wds V) (n - 2))
        have hlow := guess_lower hD'.out hgg.out hcnd.out
        have hq0 := hlow.1
        have hlow2 := Lib.hid hlow.2
        clear hlow
        by_cases hr2 : r + wd (wds V) (n - 1) < 4294967296
        · have hb2 : (((r : Int) + (wd (wds V) (n - 1) : Nat)) / 4294967296 != 0) = false := by rw [bne_eq_false_iff_eq]; omega
          have hd := Lib.hid (guess_dec hD'.out hgg.out hcnd.out hr2)
          go_wp2
          go_quiet (fail)
          go_wp2
          go_roundw
          case rel => exact ⟨q - 1, r + wd (wds V) (n - 1), by go_num, by go_num, hd.out, (by first | exact ⟨_, rfl⟩ | exact (drn1 _ _).step _ | exact ((drn1 _ _).step _).step _ | (repeat' (first | exact Drn.refl _ | apply Drn.step)))⟩
          case measure => simp [intOf]; omega
        · have hb2 : (((r : Int) + (wd (wds V) (n - 1) : Nat)) / 4294967296 != 0) = true := by rw [bne_iff_ne]; omega
          have hend := Lib.hid (guess_end (q := q - 1) (r := r + wd (wds V) (n - 1)) hD'.out (by
            have h1 := hgg.out.1
            obtain ⟨p, rfl⟩ : ∃ p, q = p + 1 := ⟨q - 1, by omega⟩
            rw [Nat.add_mul] at h1
            rw [Nat.add_sub_cancel]; omega) hlow2.out (.inr (by omega)))
          go_wp2
          go_quiet (fail)
          go_wp2
          go_ret
          exact ⟨q - 1, by go_num, hend.out.1, hend.out.2.1, hend.out.2.2, (by first | exact ⟨_, rfl⟩ | exact (drn1 _ _).step _ | exact ((drn1 _ _).step _).step _ | (repeat' (first | exact Drn.refl _ | apply Drn.step)))⟩
      · have hend := Lib.hid (guess_end hD'.out hgg.out.1 hgg.out.2.1 (.inl ⟨by omega, by have h2 : ((q * wd (wds V) (n - 2) : Nat) : Int) = (q : Int) * (wd (wds V) (n - 2) : Nat) := by simp
                                                                                          omega⟩))
        go_wp2
        go_quiet (fail)
        go_wp2
        go_ret
        exact ⟨q, rfl, hend.out.1, hend.out.2.1, hend.out.2.2, (by first | exact ⟨_, rfl⟩ | exact (drn1 _ _).step _ | exact ((drn1 _ _).step _).step _ | (repeat' (first | exact Drn.refl _ | apply Drn.step)))⟩
end Go.Proofs.YtcbkijeonilcjaaGreat
