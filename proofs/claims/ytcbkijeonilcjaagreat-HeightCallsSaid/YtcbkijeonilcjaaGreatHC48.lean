/- The guards and comparisons of the statements on heights. -/
import Derived.Test.YtcbkijeonilcjaaGreatHC45
import Derived.Test.YtcbkijeonilcjaaGreatHC47
namespace Go.Proofs.YtcbkijeonilcjaaGreat
open Go.RowKit Ieee

theorem kit_SameFloat {x : Nat} {k : Int} (w : World) (h : Fn x k) :
    Calls Tryz.prog 58 #[.float .f64 x, .float .f64 x] w fun e w' => e = .returned (.bool true) ∧ w' = w := by
  obtain ⟨s, a, h, _⟩ := h.1
  have e1 : (FloatKind.f64.format.order x x == some Ordering.eq) = true := by
    show (double.order x x == some Ordering.eq) = true
    rw [order_self h]; rfl
  clear h
  go_enter Tryz.func58, Tryz.ntmps58
  go_wp2_with fail
  go_ret
  exact ⟨rfl, rfl⟩
theorem kit_SameNumber {x y : Nat} {k : Int} (w : World) (h : Fn x k) (h' : Fn y k) :
    Calls Tryz.prog 16 #[.complex .f64 x y, .complex .f64 x y] w fun e w' => e = .returned (.bool true) ∧ w' = w := by
  have H1 := Lib.hid (fun w => kit_SameFloat w h)
  have H2 := Lib.hid (fun w => kit_SameFloat w h')
  clear h h'
  go_enter Tryz.func16, Tryz.ntmps16
  go_wp2_with fail
  refine (H1.out _).mono ?_
  rintro e w' ⟨rfl, rfl⟩
  go_wp2_with fail
  refine (H2.out _).mono ?_
  rintro e w' ⟨rfl, rfl⟩
  go_wp2_with fail
  go_ret
  exact ⟨rfl, rfl⟩
theorem law16_sameOff {x y : Nat} {k : Int} (w : World) (h : Fn x k) (h' : Fn y k) :
    Calls Tryz.prog 15 #[.agg #[.float .f64 x, .float .f64 y], .agg #[.float .f64 x, .float .f64 y]] w fun e w' => e = .returned (.bool true) ∧ Below w.heap.size w w' := by
  have H1 := Lib.hid (fun w => kit_SameFloat w h)
  have H2 := Lib.hid (fun w => kit_SameFloat w h')
  clear h h'
  obtain ⟨W0, hW0⟩ : ∃ W, (w.alloc (.cells #[.float .f64 x, .float .f64 y] 32)).alloc (.cells #[.float .f64 x, .float .f64 y] 32) = W := ⟨_, rfl⟩
  have hb0 : Below w.heap.size w W0 := by rw [← hW0]; exact ((Below.refl _ _).alloc (Nat.le_refl _) _).alloc (by simp) _
  have j0 : W0.heap[w.heap.size]? = some (.cells #[.float .f64 x, .float .f64 y] 32) := by rw [← hW0]; exact alloc_keep (heap_alloc_new w _) _
  have j1 : W0.heap[w.heap.size + 1]? = some (.cells #[.float .f64 x, .float .f64 y] 32) := by rw [← hW0]; exact heap_new _ (by simp)
  have HB := Lib.hid hb0
  obtain ⟨r0, r1, r2, r3⟩ := cell2 j0
  obtain ⟨s0, s1, s2, s3⟩ := cell2 j1
  clear hb0 j0 j1
  go_enter Tryz.func15, Tryz.ntmps15
  go_wp2_with fail
  have HW0 := Lib.hid hW0
  clear hW0
  refine (H1.out _).mono ?_
  rintro e w' ⟨rfl, rfl⟩
  go_wp2_with fail
  refine (H2.out _).mono ?_
  rintro e w' ⟨rfl, rfl⟩
  go_wp2_with fail
  go_ret
  exact ⟨rfl, HB.out⟩
set_option maxRecDepth 100000 in
theorem law13_Small {nm : ByteArray} {f t : Int} {g1 g2 : Bool} {A1 A1' A2 A2' : Option Addr} {n1 c1 n1' c1' n2 c2 n2' c2' : Nat} (m : Nat) (w : World) :
    Calls Tryz.prog 46 #[.agg #[.string nm, .int .i32 f, .int .i32 t, .bool g1, .slice A1 n1 c1, .slice A1' n1' c1', .bool g2, .slice A2 n2 c2, .slice A2' n2' c2'], .int .i64 m] w fun e w' => e = .returned (.bool ((smB n1 m && smB n1' m) && (smB n2 m && smB n2' m))) ∧ Below w.heap.size w w' := by
  obtain ⟨W0, hW0⟩ : ∃ W, w.alloc (.cells #[.string nm, .int .i32 f, .int .i32 t, .bool g1, .slice A1 n1 c1, .slice A1' n1' c1', .bool g2, .slice A2 n2 c2, .slice A2' n2' c2'] 85) = W := ⟨_, rfl⟩
  have hb0 : Below w.heap.size w W0 := by rw [← hW0]; exact (Below.refl _ _).alloc (Nat.le_refl _) _
  have j0 : W0.heap[w.heap.size]? = some (.cells #[.string nm, .int .i32 f, .int .i32 t, .bool g1, .slice A1 n1 c1, .slice A1' n1' c1', .bool g2, .slice A2 n2 c2, .slice A2' n2' c2'] 85) := by rw [← hW0]; exact heap_alloc_new w _
  have HA := Lib.hid (And.intro hb0 j0)
  obtain ⟨r0, r1, r2, r3, r4, r5, r6, r7, r8⟩ := cell9 j0
  have HS := Lib.hid (@law04_Small)
  clear hb0 j0
  cases h1 : (smB n1 m && smB n1' m)
  · have H1 := Lib.hid h1
    clear h1
    go_enter Tryz.func46, Tryz.ntmps46
    go_wp2_with fail
    have HW0 := Lib.hid hW0
    clear hW0
    refine (HS.out g1 A1 A1' n1 n1' c1 c1' m _).mono ?_
    rintro e w1 ⟨rfl, hB⟩
    have HB := Lib.hid (bel_step HA.out.1 hB)
    rw [H1.out]
    clear hB r0 r1 r2 r3 r4 r5 r6 r7 r8
    go_wp2_with fail
    go_ret
    exact ⟨rfl, HB.out⟩
  · have H1 := Lib.hid h1
    clear h1
    go_enter Tryz.func46, Tryz.ntmps46
    go_wp2_with fail
    have HW0 := Lib.hid hW0
    clear hW0
    refine (HS.out g1 A1 A1' n1 n1' c1 c1' m _).mono ?_
    rintro e w1 ⟨rfl, hB⟩
    have HB := Lib.hid (And.intro (bel_step HA.out.1 hB) (blk_below hB HA.out.2))
    rw [H1.out]
    clear hB r0 r1 r2 r3 r4 r5 r6 r7 r8
    obtain ⟨r0, r1, r2, r3, r4, r5, r6, r7, r8⟩ := cell9 HB.out.2
    go_wp2_with fail
    refine (HS.out g2 A2 A2' n2 n2' c2 c2' m _).mono ?_
    rintro e w2 ⟨rfl, hB⟩
    have HB2 := Lib.hid (bel_step HB.out.1 hB)
    clear hB r0 r1 r2 r3 r4 r5 r6 r7 r8
    go_wp2_with fail
    go_ret
    exact ⟨by simp, HB2.out⟩
def Td.small (m : Nat) (T : Td) : Bool := (smB T.l1.length m && smB T.l1'.length m) && (smB T.l2.length m && smB T.l2'.length m)
def Pd.few (p : Pd) : Bool := !((decide (6 < p.ts.length) && decide (p.ts.length ≤ 24)) || decide (28 < p.ts.length))
def Pd.small (m : Nat) (p : Pd) : Bool := p.few && ((smB p.l.length m && smB p.l'.length m) && p.ts.all (Td.small m))
set_option maxRecDepth 100000 in
set_option maxHeartbeats 2000000 in
theorem law16_Small {v : Value} {p : Pd} (m : Nat) (w : World) (h : PdR w v p) :
    Calls Tryz.prog 9 #[v, .int .i64 m] w fun e w' => e = .returned (.bool (p.small m)) ∧ Below w.heap.size w w' := by
  obtain ⟨k0, A, n, c, A', n', c', B, k, d, rfl, k1, k2, k3⟩ := h
  obtain rfl := k1.len
  obtain rfl := k2.len
  have HL := Lib.hid k3.len
  have hcap := k3.cap
  have hbig := k3.big.1
  have HT := Lib.hid k3
  have HD : Hid (p.small m = (p.few && ((smB p.l.length m && smB p.l'.length m) && p.ts.all (Td.small m)))) := rfl
  have HFW : Hid (p.few = !((decide (6 < k) && decide (k ≤ 24)) || decide (28 < k))) := by show _ = _; rw [← k3.len]; rfl
  have HS := Lib.hid (@law04_Small)
  generalize hl1 : p.l.length = n at *
  generalize hl2 : p.l'.length = n' at *
  obtain ⟨W0, hW0⟩ : ∃ W, w.alloc (.cells #[.string p.nm, .bool p.g, .slice A n c, .slice A' n' c', .slice B k d] 27) = W := ⟨_, rfl⟩
  have hb0 : Below w.heap.size w W0 := by rw [← hW0]; exact (Below.refl _ _).alloc (Nat.le_refl _) _
  have j0 : W0.heap[w.heap.size]? = some (.cells #[.string p.nm, .bool p.g, .slice A n c, .slice A' n' c', .slice B k d] 27) := by rw [← hW0]; exact heap_alloc_new w _
  have HA := Lib.hid (And.intro hb0 j0)
  obtain ⟨z0, z1, z2, z3, z4⟩ := cell5 j0
  clear hb0 j0 k0 k1 k2 k3 hl1 hl2
  by_cases hfew : 6 < k ∧ (k ≤ 24 ∨ 28 < k)
  · have HE : Hid (p.small m = false) := by
      show _ = _
      rw [HD.out, HFW.out]
      obtain ⟨a, b⟩ := hfew
      rcases b with b | b
      · simp [a, b]
      · simp [a, b]
    have hx : (6 < k ∧ k ≤ 24) ∨ (6 < k ∧ 24 < k ∧ 28 < k) := by omega
    clear hfew
    rcases hx with ⟨hx, hy⟩ | ⟨hx, hy, hz⟩
    all_goals
      go_enter Tryz.func9, Tryz.ntmps9
      go_wp2_with fail
      go_ret
      exact ⟨ret_bool HE.out.symm, HA.out.1⟩
  · have hx : k ≤ 6 ∨ (6 < k ∧ 24 < k ∧ k ≤ 28) := by omega
    have HE : Hid (p.small m = ((smB n m && smB n' m) && p.ts.all (Td.small m))) := by
      show _ = _
      rw [HD.out, HFW.out]
      have : (!((decide (6 < k) && decide (k ≤ 24)) || decide (28 < k))) = true := by
        simp; omega
      rw [this, Bool.true_and]
    clear hfew
    rcases hx with hx | ⟨hx, hy, hz⟩
    all_goals
      go_enter Tryz.func9, Tryz.ntmps9
      go_wp2_with fail
      have HW0 := Lib.hid hW0
      clear hW0
      refine (HS.out p.g A A' n n' c c' m _).mono ?_
      rintro e w1 ⟨rfl, hB⟩
      have HB := Lib.hid (And.intro (bel_step HA.out.1 hB) (blk_below hB HA.out.2))
      clear hB z0 z1 z2 z3 z4
      cases hm : (smB n m && smB n' m)
      · have HE2 : Hid (p.small m = false) := by show _ = _; rw [HE.out, hm]; rfl
        clear hm
        go_wp2_with fail
        go_ret
        exact ⟨ret_bool HE2.out.symm, HB.out.1⟩
      · have HE2 : Hid (p.small m = p.ts.all (Td.small m)) := by show _ = _; rw [HE.out, hm]; rfl
        clear hm
        go_wp2_with fail
        go_loopg [5] k (fun g iv wr => ∃ i : Nat, iv = .int .i64 i ∧ i + g = k ∧ (p.ts.take i).all (Td.small m) = true ∧ Below w.heap.size w wr ∧ wr.heap[w.heap.size]? = some (.cells #[.string p.nm, .bool p.g, .slice A n c, .slice A' n' c', .slice B k d] 27 (0, 0)))
        case atStart => exact ⟨0, rfl, by omega, by simp, HB.out⟩
        case round =>
          obtain ⟨i, rfl, hi, hal, hN⟩ := hrel
          have KK := Lib.hid hN
          have HAL := Lib.hid hal
          clear hN hal
          obtain ⟨z0, z1, z2, z3, z4⟩ := cell5 KK.out.2
          by_cases hin : i < k
          · obtain ⟨b, o, rfl, hcel⟩ := (HT.out.below KK.out.1).cell (by omega)
            have hil : i < p.ts.length := by rw [HL.out]; exact hin
            obtain ⟨A1, n1, c1, A1', n1', c1', A2, n2, c2, A2', n2', c2', ⟨q0, q1, q2, q3, q4, q5, q6, q7, q8⟩, _, r1, r2, r3, r4⟩ := hcel i hil
            obtain rfl := r1.len
            obtain rfl := r2.len
            obtain rfl := r3.len
            obtain rfl := r4.len
            have HAT := Lib.hid (all_take (Td.small m) p.ts i hil)
            have HMM := Lib.hid (List.getElem_mem hil)
            clear hcel r1 r2 r3 r4
            generalize p.ts[i] = T at *
            go_wp2_with fail
            refine (law13_Small m wr).mono ?_
            rintro e w4 ⟨rfl, hB4⟩
            have K4 := Lib.hid (And.intro (bel_step KK.out.1 hB4) (blk_below hB4 KK.out.2))
            clear hB4 q0 q1 q2 q3 q4 q5 q6 q7 q8 z0 z1 z2 z3 z4
            rw [show ((smB T.l1.length m && smB T.l1'.length m) && (smB T.l2.length m && smB T.l2'.length m)) = T.small m from rfl]
            cases hsm : T.small m
            · have HE3 : Hid (p.small m = false) := by
                show _ = _
                rw [HE2.out, List.all_eq_false]
                exact ⟨T, HMM.out, by rw [hsm]; simp⟩
              clear hsm
              go_wp2_with fail
              go_ret
              exact ⟨ret_bool HE3.out.symm, K4.out.1⟩
            · have HSM := Lib.hid hsm
              clear hsm
              go_wp2_with fail
              go_roundg (k - (i + 1))
              case measure => omega
              case rel => exact ⟨i + 1, by simp, by omega, by rw [HAT.out, HAL.out, HSM.out]; rfl, K4.out⟩
          · have hin2 : i = k := by omega
            have HE3 : Hid (p.small m = true) := by have h1 := HAL.out; rw [hin2, ← HL.out, List.take_length] at h1; show _ = _; rw [HE2.out, h1]
            clear hin2 hi
            go_wp2_with fail
            go_ret
            exact ⟨ret_bool HE3.out.symm, KK.out.1⟩
end Go.Proofs.YtcbkijeonilcjaaGreat
