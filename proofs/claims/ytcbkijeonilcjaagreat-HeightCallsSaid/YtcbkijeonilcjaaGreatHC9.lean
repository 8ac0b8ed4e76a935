/- The reference of layer 1: products. -/
import Derived.Test.YtcbkijeonilcjaaGreatHC3
import Derived.Test.YtcbkijeonilcjaaGreatHC5
import Derived.Test.YtcbkijeonilcjaaGreatHC7
import Derived.Test.YtcbkijeonilcjaaGreatHC8
namespace Go.Proofs.YtcbkijeonilcjaaGreat
open Go.RowKit

theorem mul_sum_w (a b o c : Nat) (ha : a < 4294967296) (hb : b < 4294967296) (ho : o < 4294967296) (hc : c < 4294967296) :
    IntKind.u64.wrap ((a : Int) * b) = (a : Int) * b ∧ IntKind.u64.wrap ((a : Int) * b + o) = (a : Int) * b + o ∧ IntKind.u64.wrap ((a : Int) * b + o + c) = (a : Int) * b + o + c ∧ (0 : Int) ≤ (a : Int) * b ∧ ((a : Int) * b + o + c) % 4294967296 = (((a * b + o + c) % 4294967296 : Nat) : Int) ∧ ((a : Int) * b + o + c) / 4294967296 = (((a * b + o + c) / 4294967296 : Nat) : Int) := by
  have h := mul_small ha hb ho hc
  have e : (a : Int) * b = ((a * b : Nat) : Int) := by simp
  rw [e]
  generalize a * b = p at *
  simp only [wrap_u64']
  refine ⟨by omega, by omega, by omega, by omega, by omega, by omega⟩

set_option maxRecDepth 100000 in
set_option maxHeartbeats 1000000 in
theorem ref01_Times (A A' : Option Addr) (c c' x y : Nat) (w : World) (h : Rd w A (wl x) c (wds x)) (h' : Rd w A' (wl y) c' (wds y)) (hx : wl x ≤ 100000) (hy : wl y ≤ 100000) :
    Calls Tryz.prog 283 #[.slice A (wl x) c, .slice A' (wl y) c'] w fun e w' => ∃ v, e = .returned v ∧ Own 116 w' w.heap.size v (wds (x * y)) ∧ Below w.heap.size w w' := by
  obtain ⟨i0, hi0, hz0, hz1, hz2⟩ := info_parts u32_info
  obtain ⟨m, hm⟩ : ∃ m : Nat, m = wl x + wl y := ⟨_, rfl⟩
  have HM : Hid (m = wl x + wl y) := hm
  have hmk := fun (w : World) => run_make_u32 (P := Tryz.prog) 22 116 i0 Tryz.underlying22 hi0 hz0 hz1 hz2 m ((wl x : Int) + wl y) (by omega) (by omega) w
  have ha0 : Ar 116 (w.alloc (.cells (zeros m) 116)) w.heap.size 0 m m (List.replicate m 0) := ar_zeros 116 w m (by omega)
  have hb0 : Below w.heap.size w (w.alloc (.cells (zeros m) 116)) := (Below.refl _ _).alloc (Nat.le_refl _) _
  clear hi0 hz0 hz1 hz2 hm
  generalize hg : w.heap.size = g at ha0
  generalize hw0 : w.alloc (.cells (zeros m) 116) = w0 at ha0 hb0
  go_enter Tryz.func283, Tryz.ntmps283
  go_wp2
  have HW0 := Lib.hid hw0
  have HG := Lib.hid hg
  clear hw0 hg
  go_loopw [6] (fun iv wr => ∃ (i : Nat) (cs : List Nat), iv = .int .i64 i ∧ i ≤ wl x ∧ rowAt x y i cs ∧ Ar 116 wr g 0 m m cs ∧ (∃ n1, Mod g 0 m (w0.drewN n1) wr)) (fun iv _ => wl x - (intOf iv).toNat)
  case atStart => exact ⟨0, _, rfl, Nat.zero_le _, rowAt_zero _ _ _, ha0, 0, Mod.refl _ _ _ _⟩
  case round =>
    obtain ⟨i, cs, rfl, hi, hS, hA, n1, hM⟩ := hrel
    have HMo := Lib.hid hM
    by_cases hlt : i < wl x
    · clear hM
      go_wp2
      go_loopw [7, 8] (fun cv kv wr => ∃ (k c2 : Nat) (cs : List Nat), kv = .int .i64 k ∧ cv = .int .u64 c2 ∧ k ≤ wl y ∧ mulAt x y i k c2 cs ∧ Ar 116 wr g 0 m m cs ∧ (∃ n1, Mod g 0 m (w0.drewN n1) wr)) (fun _ kv _ => wl y - (intOf kv).toNat)
      case atStart => exact ⟨0, 0, _, rfl, rfl, Nat.zero_le _, mulAt_zero hS, hA, n1, HMo.out⟩
      case round =>
        clear hA HMo hS
        obtain ⟨k, c2, cs2, rfl, rfl, hk, hS2, hA2, n2, hM2⟩ := hrel
        have R1 := h.mod (below_drewN hb0 n2) hM2 (Nat.le_of_eq HG.out)
        have R2 := h'.mod (below_drewN hb0 n2) hM2 (Nat.le_of_eq HG.out)
        have HM2 := Lib.hid hM2
        clear hM2
        have hc1 := hS2.1
        by_cases hlt2 : k < wl y
        · obtain ⟨b, o, rfl, hc⟩ := R1.cell (by omega)
          have d1 := hc i hlt
          have l1 := wd_lt R1.lim i
          obtain ⟨b', o', rfl, hc'⟩ := R2.cell (by omega)
          have d2 := hc' k hlt2
          have l2 := wd_lt R2.lim k
          clear hc hc'
          have f1 := hA2.cell (i + k) (by have := HM.out; omega)
          have f2 := hA2.free (i + k)
          rw [Nat.zero_add] at f1
          have l3 := wd_lt hA2.lim (i + k)
          obtain ⟨e1, e2, e3, e4, e5, e6⟩ := mul_sum_w _ _ _ _ l1 l2 l3 hc1
          have HE := Lib.hid (And.intro e5 e6)
          have hst := mulAt_step hS2 hlt2 (by have := hA2.len; have := HM.out; omega) hA2.lim
          have hA3 := hA2.set (i + k) ((wd (wds x) i * wd (wds y) k + wd cs2 (i + k) + c2) % 4294967296) (by have := HM.out; omega) (by omega)
          rw [Nat.zero_add] at hA3
          have HS3 := Lib.hid (And.intro hst hA3)
          have w4 : IntKind.i64.wrap ((i : Int) + k) = (i : Int) + k := by rw [IntKind.wrap_i64]; have := HM.out; omega
          have w5 : (0 : Int) ≤ (i : Int) + k := by omega
          have w6 : ((i : Int) + k).toNat = i + k := by omega
          have w7 : (i : Int) + k < (m : Int) := by have := HM.out; omega
          have w8 : i + k < m := by have := HM.out; omega
          clear e5 e6 hst hA3 hS2
          go_wp2_with fail
          go_quiet (fail)
          clear e1 e2 e3 w4 w6
          go_wp2_with fail
          obtain ⟨hst, hA3⟩ := HS3.out
          go_roundw
          case rel =>
            refine ⟨k + 1, _, _, by go_num, ?_, by omega, hst, ?_, n2, (HM2.out.drewN _).setCell (i + k) _ (by omega)⟩
            · rw [HE.out.2]
            · rw [HE.out.1]; exact hA3
          case measure => simp [intOf]; omega
        · obtain rfl : k = wl y := by omega
          have f1 := hA2.cell (i + wl y) (by have := HM.out; omega)
          have f2 := hA2.free (i + wl y)
          have hA3 := hA2.set (i + wl y) c2 (by have := HM.out; omega) hc1
          rw [Nat.zero_add] at f1 hA3
          have hst := mulAt_end hS2 (by have := hA2.len; have := HM.out; omega)
          have w8 : i + wl y < m := by have := HM.out; omega
          have hmod : (c2 : Int) % 4294967296 = c2 := by omega
          clear hS2
          go_wp2_with fail
          go_roundw
          case rel => exact ⟨i + 1, _, by go_num, by omega, hst, hA3, n2, HM2.out.setCell (i + wl y) _ (by omega)⟩
          case measure => simp [intOf]; omega
    · obtain rfl : i = wl x := by omega
      have hv := rowAt_end hS (Nat.le_refl _)
      go_wp2_with fail
      refine (ref01_Trim _ _ _ _ _ hA.rd).mono ?_
      rintro e w1 ⟨v, rfl, hO, hB1⟩
      rw [hv] at hO
      go_wp2
      go_ret
      have hbx : Below g w wr := by
        have := (HMo.out.below _ (Nat.le_refl _))
        rw [HG.out] at hb0
        exact (below_drewN hb0 n1).trans this
      have hsz : g ≤ wr.heap.size := Nat.le_of_lt hA.lt
      exact ⟨_, rfl, hO.mono hsz, hbx.trans (hB1.mono hsz)⟩
end Go.Proofs.YtcbkijeonilcjaaGreat

/- The reference of layer 1: a word of a quotient. -/
namespace Go.Proofs.YtcbkijeonilcjaaGreat
open Go.RowKit

set_option maxHeartbeats 1000000 in
theorem ref01_below (A A' : Option Addr) (n c c' V x : Nat) (l : List Nat) (w : World) (h : Rd w A n c l) (h' : Rd w A' (wl V) c' (wds V)) (_hn : n ≤ 100000) (hV : wl V ≤ 90000) (hx : x < 18446744073709551616) :
    Calls Tryz.prog 338 #[.slice A n c, .slice A' (wl V) c', .int .u64 x] w fun e w' => e = .returned (.bool (decide (val l < V * x))) ∧ Below w.heap.size w w' := by
  have hwx : wl x ≤ 2 := wl_le.2 (by simpa using hx)
  go_enter Tryz.func338, Tryz.ntmps338
  go_wp2_with fail
  refine (ref01_Of x _ hx).mono ?_
  rintro e w1 ⟨v1, rfl, hO1, hB1⟩
  obtain ⟨A1, c1, rfl, hR1⟩ := hO1.wl0
  go_wp2_with fail
  refine (ref01_Times A' A1 c' c1 V x _ (h'.below hB1) hR1 (by omega) (by omega)).mono ?_
  rintro e w2 ⟨v2, rfl, hO2, hB2⟩
  obtain ⟨A2, c2, rfl, hR2⟩ := hO2.wl0
  go_wp2_with fail
  refine (ref01_Compare A A2 n c _ c2 l _ _ ((h.below hB1).below hB2) hR2).mono ?_
  rintro e w3 ⟨rfl, n3, rfl⟩
  rw [val_wds]
  have HB := Lib.hid (hB1.trans (hB2.mono hB1.size))
  clear hO1 hO2 hB1 hB2 hR1 hR2
  by_cases hlt : val l < V * x
  · rw [cmpN_lt hlt]
    have HE : Hid (decide (val l < V * x) = true) := by show decide _ = true; simp [hlt]
    clear hlt
    go_wp2_with fail
    go_ret
    exact ⟨by rw [HE.out]; rfl, below_drewN HB.out _⟩
  · have HE : Hid (decide (val l < V * x) = false) := by show decide _ = false; simp [hlt]
    have hz : ((cmpN (val l) (V * x)) < 0) = False := by
      simp only [eq_iff_iff, iff_false]; unfold cmpN; rw [if_neg hlt]; split <;> omega
    clear hlt
    go_wp2_with fail
    go_ret
    exact ⟨by rw [HE.out]; rfl, below_drewN HB.out _⟩

/-- d times x taken off, in place; d lies elsewhere -/
theorem ref01_off (b o c n : Nat) (A' : Option Addr) (c' V x : Nat) (l : List Nat) (w : World) (h : Ar 116 w b o n c l) (h' : Rd w A' (wl V) c' (wds V)) (hn : n ≤ 100000) (hV : wl V ≤ 90000) (hx : x < 18446744073709551616) (hle : V * x ≤ val l) :
    Calls Tryz.prog 339 #[.slice (some ⟨b, o, none⟩) n c, .slice A' (wl V) c', .int .u64 x] w fun e w' => e = .returned (.tuple #[]) ∧ ∃ l', val l' = val l - V * x ∧ Ar 116 w' b o n c l' ∧ ∃ w1, Below w.heap.size w w1 ∧ Mod b o (o + n) w1 w' := by
  have hwx : wl x ≤ 2 := wl_le.2 (by simpa using hx)
  go_enter Tryz.func339, Tryz.ntmps339
  go_wp2_with fail
  refine (ref01_Of x _ hx).mono ?_
  rintro e w1 ⟨v1, rfl, hO1, hB1⟩
  obtain ⟨A1, c1, rfl, hR1⟩ := hO1.wl0
  go_wp2_with fail
  refine (ref01_Times A' A1 c' c1 V x _ (h'.below hB1) hR1 (by omega) (by omega)).mono ?_
  rintro e w2 ⟨v2, rfl, hO2, hB2⟩
  obtain ⟨A2, c2, rfl, hR2⟩ := hO2.wl0
  go_wp2_with fail
  refine (ref01_Less _ A2 n c _ c2 l _ _ ((h.below hB1).below hB2).rd hR2 (by omega) (by rw [val_wds]; exact hle)).mono ?_
  rintro e w3 ⟨v3, rfl, hO3, hB3⟩
  rw [val_wds] at hO3
  have hsz : w2.heap.size ≤ w3.heap.size := hB3.size
  have hA3 := ((h.below hB1).below hB2).below hB3
  have hb0 := hB1.trans ((hB2.trans (hB3.mono hB2.size)).mono hB1.size)
  have hbs : b < w2.heap.size := ((h.below hB1).below hB2).lt
  have hbig := h.cap.2.1
  generalize hz : val l - V * x = z at *
  have hzw : wl z ≤ n := by
    rw [← hz]
    exact Nat.le_trans (wl_mono (Nat.sub_le _ _)) (Nat.le_trans (wl_val_le h.lim) (by have := h.len; omega))
  -- the difference lies elsewhere
  obtain ⟨A3, c3, rfl, hR3, hne⟩ : ∃ A3 c3, v3 = .slice A3 (wl z) c3 ∧ Rd w3 A3 (wl z) c3 (wds z) ∧ (0 < wl z → ∀ b' o', A3 = some ⟨b', o', none⟩ → b' ≠ b) := by
    obtain ⟨A3, c3, rfl, hR3, hown⟩ := hO3.rd'
    refine ⟨A3, c3, rfl, hR3, fun hp b' o' e => ?_⟩
    obtain ⟨b2, o2, e2, hb2, _⟩ := hown hp
    rw [e] at e2
    cases e2
    omega
  have HB0 := Lib.hid hb0
  have HZ := Lib.hid hz
  clear hO1 hO2 hO3 hB1 hB2 hB3 hR1 hR2 h h' hle hb0 hz
  go_wp2_with fail
  go_loopw [7] (fun iv wr => ∃ (k : Nat) (cs : List Nat), iv = .int .i64 k ∧ k ≤ n ∧ (∀ j, j < k → wd cs j = wd (wds z) j) ∧ Ar 116 wr b o n c cs ∧ (∃ n1, Mod b o (o + n) (w3.drewN n1) wr)) (fun iv _ => n - (intOf iv).toNat)
  case atStart => exact ⟨0, _, rfl, Nat.zero_le _, fun j hj => absurd hj (by omega), hA3, 0, Mod.refl _ _ _ _⟩
  case round =>
    obtain ⟨k, cs, rfl, hk, hS, hA, n1, hM⟩ := hrel
    have R3 := hM.rd (hR3.drewN n1) hne
    have HMo := Lib.hid hM
    have HS := Lib.hid hS
    clear hM hS
    by_cases hlt : k < n
    · have f1 := hA.cell k hlt
      have f2 := hA.free (o + k)
      have l1 := wd_lt R3.lim k
      have hA2 := hA.set k (wd (wds z) k) hlt l1
      have HA2 := Lib.hid hA2
      have hmod : ((wd (wds z) k : Nat) : Int) % 4294967296 = (wd (wds z) k : Nat) := by omega
      clear hA2
      go_wp2_with fail
      refine (ref01_word A3 (wl z) c3 _ k _ R3 (by omega)).mono ?_
      rintro e w4 ⟨rfl, n4, rfl⟩
      go_wp2_with fail
      go_roundw
      case rel =>
        refine ⟨k + 1, cs.set k (wd (wds z) k), by go_num, by omega, fun j hj => ?_, HA2.out, n1, (HMo.out.drewN _).setCell (o + k) _ (by omega)⟩
        by_cases e : j = k
        · subst e; exact wd_set_eq _ (by have := hA.len; omega)
        · rw [wd_set_ne _ (by omega)]; exact HS.out j (by omega)
      case measure => simp [intOf]; omega
    · obtain rfl : k = n := by omega
      have hv : val cs = z := by
        have hl := hA.len
        have e : cs = wds z ++ List.replicate (k - wl z) 0 := by
          apply List.ext_getElem (by rw [List.length_append, List.length_replicate, wl_def]; omega)
          intro j h1 h2
          have h3 := HS.out j (by omega)
          simp only [wd, List.getD_eq_getElem?_getD] at h3
          rw [List.getElem?_eq_getElem h1] at h3
          simp only [Option.getD_some] at h3
          rw [h3]
          by_cases hj : j < (wds z).length
          · rw [List.getElem_append_left hj, List.getElem?_eq_getElem hj]; rfl
          · rw [List.getElem_append_right (by omega), List.getElem?_eq_none (by omega)]; simp
        rw [e, val_append, val_wds, val_replicate]; omega
      have HV := Lib.hid hv
      clear hv
      go_wp2_with fail
      go_end0
      exact ⟨rfl, cs, HV.out.trans HZ.out.symm, hA, _, below_drewN HB0.out n1, HMo.out⟩

set_option maxHeartbeats 1000000 in
/-- a word of the quotient; what is left stays -/
theorem ref01_digit (b o c n V : Nat) (A' : Option Addr) (c' : Nat) (u : List Nat) (w : World) (h : Ar 116 w b o (n + 1) c u) (h' : Rd w A' n c' (wds V)) (hD : DivIn u V n) (hn : n ≤ 80000) :
    Calls Tryz.prog 323 #[.slice (some ⟨b, o, none⟩) (n + 1) c, .slice A' n c'] w fun e w' => e = .returned (.int .u32 (val u / V : Nat)) ∧ ∃ l', val l' = val u % V ∧ Ar 116 w' b o (n + 1) c l' ∧ ∃ w1, Below w.heap.size w w1 ∧ Mod b o (o + (n + 1)) w1 w' := by
  obtain rfl : wl V = n := hD.wlV
  have hn2 := hD.two
  obtain ⟨b', o', rfl, hc'⟩ := h'.cell (by omega)
  have d1 := h.cell (wl V) (by omega)
  have d2 := h.cell (wl V - 1) (by omega)
  have e1 := hc' (wl V - 1) (by omega)
  have l1 := wd_lt hD.lim (wl V)
  have l2 := wd_lt hD.lim (wl V - 1)
  have m1 := wd_lt h'.lim (wl V - 1)
  have ht := hD.top
  have w1 : IntKind.i64.wrap ((wl V : Int) - 1) = (wl V : Int) - 1 := by rw [IntKind.wrap_i64]; omega
  have w2 : ((wl V : Int) - 1).toNat = wl V - 1 := by omega
  have e3 : IntKind.u64.wrap ((wd u (wl V) : Int) * 4294967296) = (wd u (wl V) : Int) * 4294967296 := by rw [wrap_u64']; omega
  have e4 : IntKind.u64.wrap ((wd u (wl V) : Int) * 4294967296 + (wd u (wl V - 1) : Nat)) = ((topOf u (wl V) : Nat) : Int) := by rw [wrap_u64', topOf]; omega
  have htop := hD.top_lt.2
  have hG := (guess_start hD).2.1
  have hq := hD.quo_lt
  obtain ⟨x0, e6, hx0⟩ : ∃ x0 : Nat, min ((topOf u (wl V) : Int) / (wd (wds V) (wl V - 1) : Nat)) 4294967295 = (x0 : Int) ∧ val u / V ≤ x0 ∧ x0 ≤ 4294967295 := by
    rw [← Int.natCast_ediv]
    clear e3 e4 w1 w2
    generalize topOf u (wl V) / wd (wds V) (wl V - 1) = q0 at *
    generalize val u / V = q at *
    clear hc' d1 d2 e1 h h' hD htop ht m1 l1 l2
    exact ⟨min q0 4294967295, by omega, by omega, by omega⟩
  have HX0 := Lib.hid hx0
  have e5 : IntKind.u64.wrap ((topOf u (wl V) : Int) / (wd (wds V) (wl V - 1) : Nat)) = (topOf u (wl V) : Int) / (wd (wds V) (wl V - 1) : Nat) := by rw [wrap_div _ _ htop, Int.natCast_ediv]
  have HD := Lib.hid hD
  have HU := Lib.hid h
  have HV := Lib.hid h'
  clear hc' hG hx0 hq hD htop
  go_enter Tryz.func323, Tryz.ntmps323
  go_wp2
  go_quiet (fail)
  clear w1 w2 e3 e4
  go_wp2
  clear e5 e6
  go_loopw [7] (fun xv wr => ∃ q : Nat, xv = .int .u64 q ∧ val u / V ≤ q ∧ q ≤ 4294967295 ∧ Below w.heap.size w wr) (fun xv _ => (intOf xv).toNat)
  case atStart => exact ⟨x0, rfl, HX0.out.1, HX0.out.2, below_drewN (Below.refl _ _) _⟩
  case round =>
    obtain ⟨q, rfl, hq1, hq2, hB⟩ := hrel
    have HB := Lib.hid hB
    have HQ := Lib.hid hq1
    clear hB hq1
    have hVp := HD.out.pos
    go_wp2_with fail
    refine (ref01_below _ _ (wl V + 1) c c' V q u _ (HU.out.below HB.out).rd (HV.out.below HB.out) (by omega) (by omega) (by omega)).mono ?_
    rintro e w2 ⟨rfl, hB2⟩
    have HB2 := Lib.hid (HB.out.trans (hB2.mono HB.out.size))
    clear hB2
    by_cases hlt : val u < V * q
    · have hd : decide (val u < V * q) = true := by simp [hlt]
      have hlow : val u / V < q := (Nat.div_lt_iff_lt_mul hVp).2 (by rw [Nat.mul_comm]; exact hlt)
      have HL : Hid (val u / V ≤ q - 1) := Nat.le_sub_one_of_lt hlow
      have hq0 : 1 ≤ q := Nat.lt_of_le_of_lt (Nat.zero_le _) hlow
      rw [hd]
      clear hd hlt hlow
      go_wp2_with fail
      go_roundw
      case rel => exact ⟨q - 1, by go_num, HL.out, by omega, HB2.out⟩
      case measure => simp [intOf]; omega
    · have hd : decide (val u < V * q) = false := by simp [hlt]
      have heq : q = val u / V := by
        have h1 : q ≤ val u / V := (Nat.le_div_iff_mul_le hVp).2 (by rw [Nat.mul_comm]; omega)
        have := HQ.out
        omega
      have HE := Lib.hid heq
      have hle : V * q ≤ val u := by omega
      have HLE := Lib.hid hle
      rw [hd]
      clear hd hlt heq hle
      go_wp2_with fail
      refine (ref01_off b o c (wl V + 1) _ c' V q u _ (HU.out.below HB2.out) (HV.out.below HB2.out) (by omega) (by omega) (by omega) HLE.out).mono ?_
      rintro e w3 ⟨rfl, l', hl', hA', w4, hB4, hM4⟩
      have hmod : (q : Int) % 4294967296 = q := by omega
      have HF : Hid (val l' = val u % V) := by
        show val l' = val u % V
        have h1 := Nat.div_add_mod (val u) V
        rw [hl', HE.out]; omega
      go_wp2_with fail
      go_ret
      exact ⟨by rw [HE.out]; rfl, l', HF.out, hA', w4, HB2.out.trans (hB4.mono HB2.out.size), hM4⟩
end Go.Proofs.YtcbkijeonilcjaaGreat

/- Fractions: rational numbers beside signs and natural numbers (plain). -/
namespace Go.Proofs.YtcbkijeonilcjaaGreat

def sg (g : Bool) (x : Nat) : Int := if g then -(x : Int) else x
def frac (g : Bool) (x y : Nat) : Rat := mkRat (sg g x) y
/-- below 0 -/
def rneg (r : Rat) : Bool := decide (r.num < 0)
def rnum (r : Rat) : Nat := r.num.natAbs
/-- short enough -/
def fits (r : Rat) : Prop := wl (rnum r) ≤ 2048 ∧ wl r.den ≤ 2048

theorem sg_natAbs (g : Bool) (x : Nat) : (sg g x).natAbs = x := by
  unfold sg; split <;> omega
theorem sg_rat (r : Rat) : sg (rneg r) (rnum r) = r.num := by
  unfold sg rneg rnum
  by_cases h : r.num < 0
  · rw [decide_eq_true h, if_pos rfl]; omega
  · rw [decide_eq_false h, if_neg (by simp)]; omega
theorem frac_rat (r : Rat) : frac (rneg r) (rnum r) r.den = r := by
  unfold frac; rw [sg_rat, Rat.mkRat_self]
theorem frac_num (g : Bool) (x : Nat) {y : Nat} (hy : 0 < y) : rnum (frac g x y) = x / Nat.gcd x y := by
  unfold rnum frac
  rw [Rat.num_mkRat, if_neg (by omega), sg_natAbs, Nat.gcd_comm y x]
  have hd : ((Nat.gcd x y : Nat) : Int) ∣ sg g x := by
    rw [← Int.dvd_natAbs, sg_natAbs]; exact Int.ofNat_dvd.2 (Nat.gcd_dvd_left x y)
  rw [Int.natAbs_ediv_of_dvd hd, sg_natAbs, Int.natAbs_natCast]
theorem frac_den (g : Bool) (x : Nat) {y : Nat} (hy : 0 < y) : (frac g x y).den = y / Nat.gcd x y := by
  unfold frac
  rw [Rat.den_mkRat, if_neg (by omega), sg_natAbs, Nat.gcd_comm y x]
theorem neg_lt_nat (q : Nat) : -(q : Int) < 0 ↔ 0 < q := by omega
theorem frac_neg (g : Bool) (x : Nat) {y : Nat} (hy : 0 < y) : rneg (frac g x y) = (g && decide (0 < x / Nat.gcd x y)) := by
  have h1 := frac_num g x hy
  have hg : 0 < Nat.gcd x y := Nat.gcd_pos_of_pos_right x hy
  unfold rneg
  unfold rnum at h1
  have h2 : (frac g x y).num = sg g x / (Nat.gcd x y : Nat) := by
    unfold frac; rw [Rat.num_mkRat, if_neg (by omega), sg_natAbs, Nat.gcd_comm y x]
  cases g
  · simp only [sg, Bool.false_and, Bool.false_eq_true, if_false] at h2 ⊢
    rw [h2, decide_eq_false_iff_not, ← Int.natCast_ediv]; omega
  · simp only [sg, if_true, Bool.true_and] at h2 ⊢
    have hd : ((Nat.gcd x y : Nat) : Int) ∣ (x : Int) := Int.ofNat_dvd.2 (Nat.gcd_dvd_left x y)
    rw [h2, Int.neg_ediv_of_dvd hd, ← Int.natCast_ediv]
    rw [decide_eq_decide]
    generalize x / Nat.gcd x y = q
    exact neg_lt_nat q
theorem rnum_zero {r : Rat} (h : rnum r = 0) : rneg r = false := by
  unfold rnum at h; unfold rneg; rw [decide_eq_false_iff_not]; omega
theorem rnum_eq_zero {r : Rat} : rnum r = 0 ↔ r = 0 := by
  unfold rnum; rw [Int.natAbs_eq_zero, Rat.num_eq_zero]
theorem wl_gcd_div (x y : Nat) : wl (x / Nat.gcd x y) ≤ wl x := wl_mono (Nat.div_le_self _ _)

theorem add_frac (a b : Rat) : a + b = mkRat (a.num * b.den + b.num * a.den) (a.den * b.den) := Rat.add_def' a b
theorem add_same {a b : Rat} (h : rneg a = rneg b) : a + b = frac (rneg a) (rnum a * b.den + rnum b * a.den) (a.den * b.den) := by
  rw [add_frac, frac]
  congr 1
  have ha := sg_rat a
  have hb := sg_rat b
  rw [← h] at hb
  rw [← ha, ← hb]
  unfold sg
  split <;> simp <;> grind
theorem add_lt {a b : Rat} (h : rneg a ≠ rneg b) (hl : rnum a * b.den < rnum b * a.den) : a + b = frac (rneg b) (rnum b * a.den - rnum a * b.den) (a.den * b.den) := by
  rw [add_frac, frac]
  congr 1
  have ha := sg_rat a
  have hb := sg_rat b
  obtain ⟨d, hd⟩ := Nat.exists_eq_add_of_lt hl
  rw [show rnum b * a.den - rnum a * b.den = d + 1 from by omega]
  have hd' : ((rnum b : Nat) : Int) * (a.den : Nat) = (rnum a : Nat) * (b.den : Nat) + d + 1 := by exact_mod_cast hd
  rw [← ha, ← hb]
  cases e1 : rneg a <;> cases e2 : rneg b <;> rw [e1, e2] at h <;> simp [sg] at h ⊢ <;> grind
theorem add_ge {a b : Rat} (h : rneg a ≠ rneg b) (hl : rnum b * a.den ≤ rnum a * b.den) : a + b = frac (rneg a) (rnum a * b.den - rnum b * a.den) (a.den * b.den) := by
  rw [add_frac, frac]
  congr 1
  have ha := sg_rat a
  have hb := sg_rat b
  obtain ⟨d, hd⟩ := Nat.exists_eq_add_of_le hl
  rw [show rnum a * b.den - rnum b * a.den = d from by omega]
  have hd' : ((rnum a : Nat) : Int) * (b.den : Nat) = (rnum b : Nat) * (a.den : Nat) + d := by exact_mod_cast hd
  rw [← ha, ← hb]
  cases e1 : rneg a <;> cases e2 : rneg b <;> rw [e1, e2] at h <;> simp [sg] at h ⊢ <;> grind
theorem mul_frac (a b : Rat) : a * b = frac (rneg a != rneg b) (rnum a * rnum b) (a.den * b.den) := by
  rw [Rat.mul_def', frac]
  congr 1
  rw [← sg_rat a, ← sg_rat b]
  unfold sg
  cases rneg a <;> cases rneg b <;> simp <;> grind
theorem neg_rnum (a : Rat) : rnum (-a) = rnum a := by unfold rnum; simp
theorem neg_rneg (a : Rat) : rneg (-a) = (!rneg a && decide (0 < rnum a)) := by
  unfold rneg rnum
  rw [Rat.neg_num, Bool.eq_iff_iff]
  by_cases h : 0 < a.num
  · simp [show ¬ a.num < 0 from by omega, show 0 < a.num.natAbs from by omega]; omega
  · by_cases h2 : a.num < 0
    · simp [h2]; omega
    · simp [show a.num = 0 from by omega]
theorem fits_neg {a : Rat} : fits (-a) ↔ fits a := by unfold fits; rw [neg_rnum, Rat.neg_den]

/-- the words of a fraction are those of a rational number -/
theorem frac_of {g : Bool} {x y : Nat} (hy : 0 < y) (hc : Nat.gcd x y = 1) (hg : x = 0 → g = false) : rnum (frac g x y) = x ∧ (frac g x y).den = y ∧ rneg (frac g x y) = g := by
  refine ⟨by rw [frac_num g x hy, hc, Nat.div_one], by rw [frac_den g x hy, hc, Nat.div_one], ?_⟩
  rw [frac_neg g x hy, hc, Nat.div_one]
  rcases Nat.eq_zero_or_pos x with h | h
  · rw [hg h]; rfl
  · simp [h]
theorem rcop (r : Rat) : Nat.gcd (rnum r) r.den = 1 := r.reduced

/-- comparing -/
def rcmp (a b : Rat) : Int := if a < b then -1 else if b < a then 1 else 0
theorem rat_lt_nn {a b : Rat} (ha : rneg a = false) (hb : rneg b = false) : a < b ↔ rnum a * b.den < rnum b * a.den := by
  rw [Rat.lt_iff, ← sg_rat a, ← sg_rat b, ha, hb]
  simp only [sg, Bool.false_eq_true, if_false]
  constructor <;> intro h <;> exact_mod_cast h
theorem rat_lt_pp {a b : Rat} (ha : rneg a = true) (hb : rneg b = true) : a < b ↔ rnum b * a.den < rnum a * b.den := by
  rw [Rat.lt_iff, ← sg_rat a, ← sg_rat b, ha, hb]
  simp only [sg, if_true]
  constructor
  · intro h
    have : ((rnum b * a.den : Nat) : Int) < ((rnum a * b.den : Nat) : Int) := by push_cast; grind
    exact_mod_cast this
  · intro h
    have : ((rnum b * a.den : Nat) : Int) < ((rnum a * b.den : Nat) : Int) := by exact_mod_cast h
    push_cast at this; grind
theorem rneg_iff {a : Rat} : rneg a = true ↔ a < 0 := by
  unfold rneg
  rw [decide_eq_true_iff, Rat.lt_iff]
  simp
theorem rneg_iff' {a : Rat} : rneg a = false ↔ 0 ≤ a := by
  rw [← Rat.not_lt, ← rneg_iff]; simp
theorem rcmp_nn {a b : Rat} (ha : rneg a = false) (hb : rneg b = false) : rcmp a b = cmpN (rnum a * b.den) (rnum b * a.den) := by
  unfold rcmp cmpN
  simp only [rat_lt_nn ha hb, rat_lt_nn hb ha]
theorem rcmp_pp {a b : Rat} (ha : rneg a = true) (hb : rneg b = true) : rcmp a b = cmpN (rnum b * a.den) (rnum a * b.den) := by
  unfold rcmp cmpN
  simp only [rat_lt_pp ha hb, rat_lt_pp hb ha]
theorem rcmp_pn {a b : Rat} (ha : rneg a = true) (hb : rneg b = false) : rcmp a b = -1 := by
  unfold rcmp
  rw [if_pos]
  rw [rneg_iff] at ha; rw [rneg_iff'] at hb
  exact (Rat.not_le.1 fun h => Rat.not_le.2 ha (Rat.le_trans hb h))
theorem rcmp_np {a b : Rat} (ha : rneg a = false) (hb : rneg b = true) : rcmp a b = 1 := by
  rw [rneg_iff'] at ha; rw [rneg_iff] at hb
  have h : b < a := (Rat.not_le.1 fun h => Rat.not_le.2 hb (Rat.le_trans ha h))
  unfold rcmp
  rw [if_neg (Rat.not_lt.2 (Rat.le_of_lt h)), if_pos h]
end Go.Proofs.YtcbkijeonilcjaaGreat
