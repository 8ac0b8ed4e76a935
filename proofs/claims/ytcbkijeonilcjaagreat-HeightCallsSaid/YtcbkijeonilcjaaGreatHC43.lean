/- The kit of the statements: complex fractions that are lent, and as they were. -/
import Derived.Test.YtcbkijeonilcjaaGreatHC42
namespace Go.Proofs.YtcbkijeonilcjaaGreat
open Go.RowKit

def isInt : Value → Bool
  | .int _ _ => true
  | _ => false
theorem LtW.ne {w : World} {b p n c : Nat} {l : List Nat} {u : Value} (h : LtW w b n c l) (hc : w.cell? ⟨p, 0, none⟩ = some u) (hu : isInt u = false) : b ≠ p := by
  rintro rfl
  obtain ⟨b', o', e, hcc⟩ := h.rd.cell (by omega)
  cases e
  have h1 := hcc 0 (by omega)
  rw [Nat.add_zero, hc] at h1
  injection h1 with h1
  subst h1
  cases hu
theorem set6_other {w : World} {p b : Nat} (x y z x' y' z' : Value) (h : b ≠ p) : (set6 w p x y z x' y' z').heap[b]? = w.heap[b]? := by
  unfold set6
  rw [Below.heap_setCell _ _ _ _ h, Below.heap_setCell _ _ _ _ h, Below.heap_setCell _ _ _ _ h, Below.heap_setCell _ _ _ _ h, Below.heap_setCell _ _ _ _ h, Below.heap_setCell _ _ _ _ h]
/-- four lists of words are read -/
structure Rd4 (w : World) (A1 : Option Addr) (n1 c1 : Nat) (A1' : Option Addr) (n1' c1' : Nat) (A2 : Option Addr) (n2 c2 : Nat) (A2' : Option Addr) (n2' c2' : Nat) (l1 l1' l2 l2' : List Nat) : Prop where
  a : Rd w A1 n1 c1 l1
  b : Rd w A1' n1' c1' l1'
  c : Rd w A2 n2 c2 l2
  d : Rd w A2' n2' c2' l2'
  n : (n1 ≤ 100000 ∧ n1' ≤ 100000) ∧ (n2 ≤ 100000 ∧ n2' ≤ 100000)
theorem Rd4.below {w w1 : World} {A1 A1' A2 A2' : Option Addr} {n1 c1 n1' c1' n2 c2 n2' c2' : Nat} {l1 l1' l2 l2' : List Nat} (h : Rd4 w A1 n1 c1 A1' n1' c1' A2 n2 c2 A2' n2' c2' l1 l1' l2 l2') (hb : Below w.heap.size w w1) : Rd4 w1 A1 n1 c1 A1' n1' c1' A2 n2 c2 A2' n2' c2' l1 l1' l2 l2' :=
  ⟨h.a.below hb, h.b.below hb, h.c.below hb, h.d.below hb, h.n⟩
/-- four lists of words are lent -/
structure Lt4 (w : World) (b1 n1 d1 b1' n1' d1' b2 n2 d2 b2' n2' d2' : Nat) (l1 l1' l2 l2' : List Nat) : Prop where
  a : LtW w b1 n1 d1 l1
  b : LtW w b1' n1' d1' l1'
  c : LtW w b2 n2 d2 l2
  d : LtW w b2' n2' d2' l2'
theorem Lt4.below {w w1 : World} {b1 n1 d1 b1' n1' d1' b2 n2 d2 b2' n2' d2' : Nat} {l1 l1' l2 l2' : List Nat} (h : Lt4 w b1 n1 d1 b1' n1' d1' b2 n2 d2 b2' n2' d2' l1 l1' l2 l2') (hb : Below w.heap.size w w1) : Lt4 w1 b1 n1 d1 b1' n1' d1' b2 n2 d2 b2' n2' d2' l1 l1' l2 l2' :=
  ⟨h.a.below hb, h.b.below hb, h.c.below hb, h.d.below hb⟩
theorem Lt4.apart {w w1 : World} {b1 n1 d1 b1' n1' d1' b2 n2 d2 b2' n2' d2' p : Nat} {l1 l1' l2 l2' : List Nat} {u : Value} (h : Lt4 w b1 n1 d1 b1' n1' d1' b2 n2 d2 b2' n2' d2' l1 l1' l2 l2') (hc : w.cell? ⟨p, 0, none⟩ = some u) (hu : isInt u = false) (hk : ∀ b, b ≠ p → w1.heap[b]? = w.heap[b]?) : Lt4 w1 b1 n1 d1 b1' n1' d1' b2 n2 d2 b2' n2' d2' l1 l1' l2 l2' :=
  ⟨h.a.apart (hk _ (h.a.ne hc hu)), h.b.apart (hk _ (h.b.ne hc hu)), h.c.apart (hk _ (h.c.ne hc hu)), h.d.apart (hk _ (h.d.ne hc hu))⟩
set_option maxRecDepth 100000 in
set_option maxHeartbeats 4000000 in
theorem kit_LentGauss {A1 A1' A2 A2' : Option Addr} {n1 c1 n1' c1' n2 c2 n2' c2' : Nat} {l1 l1' l2 l2' : List Nat} (g1 g2 : Bool) (w : World) (h : Rd4 w A1 n1 c1 A1' n1' c1' A2 n2 c2 A2' n2' c2' l1 l1' l2 l2') :
    Calls Tryz.prog 83 #[.agg #[.bool g1, .slice A1 n1 c1, .slice A1' n1' c1', .bool g2, .slice A2 n2 c2, .slice A2' n2' c2']] w fun e w' => ∃ b1 d1 b1' d1' b2 d2 b2' d2', e = .returned (.agg #[.bool g1, .slice (some ⟨b1, 0, none⟩) n1 d1, .slice (some ⟨b1', 0, none⟩) n1' d1', .bool g2, .slice (some ⟨b2, 0, none⟩) n2 d2, .slice (some ⟨b2', 0, none⟩) n2' d2']) ∧ Lt4 w' b1 n1 d1 b1' n1' d1' b2 n2 d2 b2' n2' d2' l1 l1' l2 l2' ∧ Below w.heap.size w w' := by
  have HC := Lib.hid (fun w' (hb : Below w.heap.size w w') => kit_LentRatio g1 A1 A1' n1 n1' c1 c1' l1 l1' w' (h.a.below hb) (h.b.below hb) h.n.1.1 h.n.1.2)
  have HC' := Lib.hid (fun w' (hb : Below w.heap.size w w') => kit_LentRatio g2 A2 A2' n2 n2' c2 c2' l2 l2' w' (h.c.below hb) (h.d.below hb) h.n.2.1 h.n.2.2)
  clear h
  obtain ⟨W0, hW0⟩ : ∃ W, (w.alloc (.cells #[.bool g1, .slice A1 n1 c1, .slice A1' n1' c1', .bool g2, .slice A2 n2 c2, .slice A2' n2' c2'] 83)).alloc (.cells #[.bool false, .slice none 0 0, .slice none 0 0, .bool false, .slice none 0 0, .slice none 0 0] 83) = W := ⟨_, rfl⟩
  have hb0 : Below w.heap.size w W0 := by rw [← hW0]; exact ((Below.refl _ _).alloc (Nat.le_refl _) _).alloc (by simp) _
  have k0 : W0.heap[w.heap.size]? = some (.cells #[.bool g1, .slice A1 n1 c1, .slice A1' n1' c1', .bool g2, .slice A2 n2 c2, .slice A2' n2' c2'] 83) := by rw [← hW0]; exact alloc_keep (heap_alloc_new w _) _
  have k1 : W0.heap[w.heap.size + 1]? = some (.cells #[.bool false, .slice none 0 0, .slice none 0 0, .bool false, .slice none 0 0, .slice none 0 0] 83) := by rw [← hW0]; exact heap_new _ (by simp)
  have HA := Lib.hid (And.intro hb0 (And.intro k0 k1))
  have HF := Lib.hid (fun w' (hB : Below W0.heap.size W0 w') => (show w'.cell? ⟨w.heap.size, 0, none⟩ = some (.bool g1) ∧ w'.cell? ⟨w.heap.size, 1, none⟩ = some (.slice A1 n1 c1) ∧ w'.cell? ⟨w.heap.size, 2, none⟩ = some (.slice A1' n1' c1') ∧ w'.cell? ⟨w.heap.size, 3, none⟩ = some (.bool g2) ∧ w'.cell? ⟨w.heap.size, 4, none⟩ = some (.slice A2 n2 c2) ∧ w'.cell? ⟨w.heap.size, 5, none⟩ = some (.slice A2' n2' c2') from by
    obtain ⟨⟨y0, y1, y2⟩, y3, y4, y5⟩ := cell6 (blk_below hB k0)
    exact ⟨y0, y1, y2, y3, y4, y5⟩))
  clear hb0 k0 k1
  go_enter Tryz.func83, Tryz.ntmps83
  go_upto_region 1 with fail
  have HW0 := Lib.hid hW0
  clear hW0
  have hBs : Below W0.heap.size W0 W0.drew := below_drewN (Below.refl _ _) 1
  go_region_held3 (fun w' => w'.cell? ⟨w.heap.size, 0, none⟩ = some (.bool g1) ∧ w'.cell? ⟨w.heap.size, 1, none⟩ = some (.slice A1 n1 c1) ∧ w'.cell? ⟨w.heap.size, 2, none⟩ = some (.slice A1' n1' c1') ∧ w'.cell? ⟨w.heap.size, 3, none⟩ = some (.bool g2) ∧ w'.cell? ⟨w.heap.size, 4, none⟩ = some (.slice A2 n2 c2) ∧ w'.cell? ⟨w.heap.size, 5, none⟩ = some (.slice A2' n2' c2'))
    (first
      | with_reducible exact HF.out _ hBs
      | with_reducible exact HF.out _ hBc2
      | with_reducible exact HF.out _ hBc3
      | (obtain ⟨u1, u2, u3, u4, u5, u6⟩ := HF.out _ hBc3; go_simp))
    (first
      | (go_at_call 47; (with_reducible refine (HC.out _ (bel_step HA.out.1 hBs)).mono ?_); rintro e w2 ⟨b1, d1, b1', d1', rfl, hL1, hL1', hB2⟩; have hBc2 := bel_step hBs hB2)
      | (go_at_call 47; (with_reducible refine (HC'.out _ (bel_step HA.out.1 hBc2)).mono ?_); rintro e w3 ⟨b2, d2, b2', d2', rfl, hL2, hL2', hB3⟩; have hBc3 := bel_step hBc2 hB3; obtain ⟨⟨s0, s1, s2⟩, s3, s4, s5⟩ := cell6 (blk_below hBc3 HA.out.2.2); obtain ⟨f0, f1, f2, f3, f4, f5⟩ := free6 (blk_below hBc3 HA.out.2.2)))
  have HFin := Lib.hid (And.intro (Lt4.mk (hL1.below hB3) (hL1'.below hB3) hL2 hL2') (And.intro (bel_step HA.out.1 hBc3) s0))
  clear hL1 hL1' hL2 hL2' hB2 hB3 hBc2 hBs hBc3
  go_wp2_with fail
  exact bodyPost_ret (v := .agg #[.bool g1, .slice (some ⟨b1, 0, none⟩) n1 d1, .slice (some ⟨b1', 0, none⟩) n1' d1', .bool g2, .slice (some ⟨b2, 0, none⟩) n2 d2, .slice (some ⟨b2', 0, none⟩) n2' d2']) (by simp [results, Tryz.results83, go_sem, *]) rfl
    ⟨_, _, _, _, _, _, _, _, rfl, HFin.out.1.apart HFin.out.2.2 rfl (fun b hb => set6_other _ _ _ _ _ _ hb), below_set6 HFin.out.2.1 (Nat.le_succ _) _ _ _ _ _ _⟩
end Go.Proofs.YtcbkijeonilcjaaGreat

/- The kit of the statements: constituents that are lent, and as they were. -/
namespace Go.Proofs.YtcbkijeonilcjaaGreat
open Go.RowKit

set_option maxRecDepth 100000 in
set_option maxHeartbeats 2000000 in
theorem kit_KeptGauss {b1 d1 b1' d1' b2 d2 b2' d2' : Nat} {A1 A1' A2 A2' : Option Addr} {n1 c1 n1' c1' n2 c2 n2' c2' : Nat} {l1 l1' l2 l2' : List Nat} (g1 g2 : Bool) (w : World) (k : Lt4 w b1 n1 d1 b1' n1' d1' b2 n2 d2 b2' n2' d2' l1 l1' l2 l2') (h : Rd4 w A1 n1 c1 A1' n1' c1' A2 n2 c2 A2' n2' c2' l1 l1' l2 l2') :
    Calls Tryz.prog 93 #[.agg #[.bool g1, .slice (some ⟨b1, 0, none⟩) n1 d1, .slice (some ⟨b1', 0, none⟩) n1' d1', .bool g2, .slice (some ⟨b2, 0, none⟩) n2 d2, .slice (some ⟨b2', 0, none⟩) n2' d2'], .agg #[.bool g1, .slice A1 n1 c1, .slice A1' n1' c1', .bool g2, .slice A2 n2 c2, .slice A2' n2' c2']] w fun e w' => e = .returned (.bool true) ∧ Below w.heap.size w w' := by
  have HC := Lib.hid (fun w' (hb : Below w.heap.size w w') => kit_KeptRatio g1 b1 b1' d1 d1' A1 A1' n1 n1' c1 c1' l1 l1' w' (k.a.below hb) (k.b.below hb) (h.a.below hb) (h.b.below hb) h.n.1.1 h.n.1.2)
  have HC' := Lib.hid (fun w' (hb : Below w.heap.size w w') => kit_KeptRatio g2 b2 b2' d2 d2' A2 A2' n2 n2' c2 c2' l2 l2' w' (k.c.below hb) (k.d.below hb) (h.c.below hb) (h.d.below hb) h.n.2.1 h.n.2.2)
  clear k h
  obtain ⟨W0, hW0⟩ : ∃ W, (w.alloc (.cells #[.bool g1, .slice (some ⟨b1, 0, none⟩) n1 d1, .slice (some ⟨b1', 0, none⟩) n1' d1', .bool g2, .slice (some ⟨b2, 0, none⟩) n2 d2, .slice (some ⟨b2', 0, none⟩) n2' d2'] 83)).alloc (.cells #[.bool g1, .slice A1 n1 c1, .slice A1' n1' c1', .bool g2, .slice A2 n2 c2, .slice A2' n2' c2'] 83) = W := ⟨_, rfl⟩
  have hb0 : Below w.heap.size w W0 := by rw [← hW0]; exact ((Below.refl _ _).alloc (Nat.le_refl _) _).alloc (by simp) _
  have k0 : W0.heap[w.heap.size]? = some (.cells #[.bool g1, .slice (some ⟨b1, 0, none⟩) n1 d1, .slice (some ⟨b1', 0, none⟩) n1' d1', .bool g2, .slice (some ⟨b2, 0, none⟩) n2 d2, .slice (some ⟨b2', 0, none⟩) n2' d2'] 83) := by rw [← hW0]; exact alloc_keep (heap_alloc_new w _) _
  have k1 : W0.heap[w.heap.size + 1]? = some (.cells #[.bool g1, .slice A1 n1 c1, .slice A1' n1' c1', .bool g2, .slice A2 n2 c2, .slice A2' n2' c2'] 83) := by rw [← hW0]; exact heap_new _ (by simp)
  have HA := Lib.hid (And.intro hb0 (And.intro k0 k1))
  obtain ⟨⟨r0, r1, r2⟩, r3, r4, r5⟩ := cell6 k0
  obtain ⟨⟨s0, s1, s2⟩, s3, s4, s5⟩ := cell6 k1
  clear hb0 k0 k1
  go_enter Tryz.func93, Tryz.ntmps93
  go_wp2_with fail
  have HW0 := Lib.hid hW0
  clear hW0
  refine (HC.out W0 HA.out.1).mono ?_
  rintro e w1 ⟨rfl, hB⟩
  have H1 := Lib.hid (And.intro (bel_step HA.out.1 hB) (And.intro (blk_below hB HA.out.2.1) (blk_below hB HA.out.2.2)))
  clear r0 r1 r2 r3 r4 r5 s0 s1 s2 s3 s4 s5 hB
  obtain ⟨⟨r0, r1, r2⟩, r3, r4, r5⟩ := cell6 H1.out.2.1
  obtain ⟨⟨s0, s1, s2⟩, s3, s4, s5⟩ := cell6 H1.out.2.2
  go_wp2_with fail
  refine (HC'.out w1 H1.out.1).mono ?_
  rintro e w2 ⟨rfl, hB⟩
  have H2 := Lib.hid (bel_step H1.out.1 hB)
  clear hB r0 r1 r2 r3 r4 r5 s0 s1 s2 s3 s4 s5
  go_wp2_with fail
  go_ret
  exact ⟨rfl, H2.out⟩
set_option maxRecDepth 100000 in
set_option maxHeartbeats 2000000 in
theorem kit_SameGauss0 (w : World) :
    Calls Tryz.prog 94 #[g0, g0] w fun e w' => e = .returned (.bool true) ∧ Below w.heap.size w w' := by
  unfold g0
  have HC := Lib.hid (fun w' => kit_SameRatio false none none 0 0 none none 0 0 0 0 [] [] w' (Rd.nil w') (Rd.nil w') (Rd.nil w') (Rd.nil w'))
  obtain ⟨W0, hW0⟩ : ∃ W, (w.alloc (.cells #[.bool false, .slice none 0 0, .slice none 0 0, .bool false, .slice none 0 0, .slice none 0 0] 83)).alloc (.cells #[.bool false, .slice none 0 0, .slice none 0 0, .bool false, .slice none 0 0, .slice none 0 0] 83) = W := ⟨_, rfl⟩
  have hb0 : Below w.heap.size w W0 := by rw [← hW0]; exact ((Below.refl _ _).alloc (Nat.le_refl _) _).alloc (by simp) _
  have k0 : W0.heap[w.heap.size]? = some (.cells #[.bool false, .slice none 0 0, .slice none 0 0, .bool false, .slice none 0 0, .slice none 0 0] 83) := by rw [← hW0]; exact alloc_keep (heap_alloc_new w _) _
  have k1 : W0.heap[w.heap.size + 1]? = some (.cells #[.bool false, .slice none 0 0, .slice none 0 0, .bool false, .slice none 0 0, .slice none 0 0] 83) := by rw [← hW0]; exact heap_new _ (by simp)
  have HA := Lib.hid (And.intro hb0 (And.intro k0 k1))
  obtain ⟨⟨r0, r1, r2⟩, r3, r4, r5⟩ := cell6 k0
  obtain ⟨⟨s0, s1, s2⟩, s3, s4, s5⟩ := cell6 k1
  clear hb0 k0 k1
  go_enter Tryz.func94, Tryz.ntmps94
  go_wp2_with fail
  have HW0 := Lib.hid hW0
  clear hW0
  refine (HC.out W0).mono ?_
  rintro e w1 ⟨rfl, hB⟩
  have H1 := Lib.hid (And.intro (bel_step HA.out.1 hB) (And.intro (blk_below hB HA.out.2.1) (blk_below hB HA.out.2.2)))
  clear r0 r1 r2 r3 r4 r5 s0 s1 s2 s3 s4 s5 hB
  obtain ⟨⟨r0, r1, r2⟩, r3, r4, r5⟩ := cell6 H1.out.2.1
  obtain ⟨⟨s0, s1, s2⟩, s3, s4, s5⟩ := cell6 H1.out.2.2
  go_wp2_with fail
  refine (HC.out w1).mono ?_
  rintro e w2 ⟨rfl, hB⟩
  have H2 := Lib.hid (bel_step H1.out.1 hB)
  clear hB r0 r1 r2 r3 r4 r5 s0 s1 s2 s3 s4 s5
  go_wp2_with fail
  go_ret
  exact ⟨rfl, H2.out⟩
set_option maxRecDepth 100000 in
set_option maxHeartbeats 2000000 in
theorem kit_KeptTide {b1 d1 b1' d1' b2 d2 b2' d2' : Nat} {A1 A1' A2 A2' : Option Addr} {n1 c1 n1' c1' n2 c2 n2' c2' : Nat} {l1 l1' l2 l2' : List Nat} (nm : ByteArray) (f m : Int) (g1 g2 : Bool) (w : World) (k : Lt4 w b1 n1 d1 b1' n1' d1' b2 n2 d2 b2' n2' d2' l1 l1' l2 l2') (h : Rd4 w A1 n1 c1 A1' n1' c1' A2 n2 c2 A2' n2' c2' l1 l1' l2 l2') :
    Calls Tryz.prog 134 #[.agg #[.string nm, .int .i32 f, .int .i32 m, .bool g1, .slice (some ⟨b1, 0, none⟩) n1 d1, .slice (some ⟨b1', 0, none⟩) n1' d1', .bool g2, .slice (some ⟨b2, 0, none⟩) n2 d2, .slice (some ⟨b2', 0, none⟩) n2' d2'], .agg #[.string nm, .int .i32 f, .int .i32 m, .bool g1, .slice A1 n1 c1, .slice A1' n1' c1', .bool g2, .slice A2 n2 c2, .slice A2' n2' c2']] w fun e w' => e = .returned (.bool true) ∧ Below w.heap.size w w' := by
  have HC := Lib.hid (fun w' (hb : Below w.heap.size w w') => kit_KeptGauss g1 g2 w' (k.below hb) (h.below hb))
  clear k h
  obtain ⟨W0, hW0⟩ : ∃ W, (w.alloc (.cells #[.string nm, .int .i32 f, .int .i32 m, .bool g1, .slice (some ⟨b1, 0, none⟩) n1 d1, .slice (some ⟨b1', 0, none⟩) n1' d1', .bool g2, .slice (some ⟨b2, 0, none⟩) n2 d2, .slice (some ⟨b2', 0, none⟩) n2' d2'] 85)).alloc (.cells #[.string nm, .int .i32 f, .int .i32 m, .bool g1, .slice A1 n1 c1, .slice A1' n1' c1', .bool g2, .slice A2 n2 c2, .slice A2' n2' c2'] 85) = W := ⟨_, rfl⟩
  have hb0 : Below w.heap.size w W0 := by rw [← hW0]; exact ((Below.refl _ _).alloc (Nat.le_refl _) _).alloc (by simp) _
  have k0 : W0.heap[w.heap.size]? = some (.cells #[.string nm, .int .i32 f, .int .i32 m, .bool g1, .slice (some ⟨b1, 0, none⟩) n1 d1, .slice (some ⟨b1', 0, none⟩) n1' d1', .bool g2, .slice (some ⟨b2, 0, none⟩) n2 d2, .slice (some ⟨b2', 0, none⟩) n2' d2'] 85) := by rw [← hW0]; exact alloc_keep (heap_alloc_new w _) _
  have k1 : W0.heap[w.heap.size + 1]? = some (.cells #[.string nm, .int .i32 f, .int .i32 m, .bool g1, .slice A1 n1 c1, .slice A1' n1' c1', .bool g2, .slice A2 n2 c2, .slice A2' n2' c2'] 85) := by rw [← hW0]; exact heap_new _ (by simp)
  have HA := Lib.hid (And.intro hb0 (And.intro k0 k1))
  obtain ⟨r0, r1, r2, r3, r4, r5, r6, r7, r8⟩ := cell9 k0
  obtain ⟨s0, s1, s2, s3, s4, s5, s6, s7, s8⟩ := cell9 k1
  clear hb0 k0 k1
  have e1 : (nm.toList == nm.toList) = true := by simp
  go_enter Tryz.func134, Tryz.ntmps134
  go_wp2_with fail
  have HW0 := Lib.hid hW0
  clear hW0
  refine (HC.out W0 HA.out.1).mono ?_
  rintro e w1 ⟨rfl, hB⟩
  have H1 := Lib.hid (bel_step HA.out.1 hB)
  clear r0 r1 r2 r3 r4 r5 r6 r7 r8 s0 s1 s2 s3 s4 s5 s6 s7 s8 hB
  go_wp2_with fail
  go_ret
  exact ⟨rfl, H1.out⟩
/-- what stands behind constituents that are lent -/
def behind : ByteArray := ⟨#[98, 101, 104, 105, 110, 100]⟩
set_option maxRecDepth 100000 in
set_option maxHeartbeats 2000000 in
theorem kit_SameTide0 (nm : ByteArray) (w : World) :
    Calls Tryz.prog 91 #[.agg #[.string nm, .int .i32 0, .int .i32 0, .bool false, .slice none 0 0, .slice none 0 0, .bool false, .slice none 0 0, .slice none 0 0], .agg #[.string nm, .int .i32 0, .int .i32 0, .bool false, .slice none 0 0, .slice none 0 0, .bool false, .slice none 0 0, .slice none 0 0]] w fun e w' => e = .returned (.bool true) ∧ Below w.heap.size w w' := by
  have HC := Lib.hid (fun w' => kit_SameGauss0 w')
  unfold g0 at HC
  obtain ⟨W0, hW0⟩ : ∃ W, (w.alloc (.cells #[.string nm, .int .i32 0, .int .i32 0, .bool false, .slice none 0 0, .slice none 0 0, .bool false, .slice none 0 0, .slice none 0 0] 85)).alloc (.cells #[.string nm, .int .i32 0, .int .i32 0, .bool false, .slice none 0 0, .slice none 0 0, .bool false, .slice none 0 0, .slice none 0 0] 85) = W := ⟨_, rfl⟩
  have hb0 : Below w.heap.size w W0 := by rw [← hW0]; exact ((Below.refl _ _).alloc (Nat.le_refl _) _).alloc (by simp) _
  have k0 : W0.heap[w.heap.size]? = some (.cells #[.string nm, .int .i32 0, .int .i32 0, .bool false, .slice none 0 0, .slice none 0 0, .bool false, .slice none 0 0, .slice none 0 0] 85) := by rw [← hW0]; exact alloc_keep (heap_alloc_new w _) _
  have k1 : W0.heap[w.heap.size + 1]? = some (.cells #[.string nm, .int .i32 0, .int .i32 0, .bool false, .slice none 0 0, .slice none 0 0, .bool false, .slice none 0 0, .slice none 0 0] 85) := by rw [← hW0]; exact heap_new _ (by simp)
  have HA := Lib.hid (And.intro hb0 (And.intro k0 k1))
  obtain ⟨r0, r1, r2, r3, r4, r5, r6, r7, r8⟩ := cell9 k0
  obtain ⟨s0, s1, s2, s3, s4, s5, s6, s7, s8⟩ := cell9 k1
  clear hb0 k0 k1
  have e1 : (nm.toList == nm.toList) = true := by simp
  go_enter Tryz.func91, Tryz.ntmps91
  go_wp2_with fail
  have HW0 := Lib.hid hW0
  clear hW0
  refine (HC.out W0).mono ?_
  rintro e w1 ⟨rfl, hB⟩
  have H1 := Lib.hid (bel_step HA.out.1 hB)
  clear r0 r1 r2 r3 r4 r5 r6 r7 r8 s0 s1 s2 s3 s4 s5 s6 s7 s8 hB
  go_wp2_with fail
  go_ret
  exact ⟨rfl, H1.out⟩
end Go.Proofs.YtcbkijeonilcjaaGreat

/- The kit of the statements: a constituent that is lent. -/
namespace Go.Proofs.YtcbkijeonilcjaaGreat
open Go.RowKit

def set9 (w : World) (b : Nat) (x0 x1 x2 x3 x4 x5 x6 x7 x8 : Value) : World := ((((((((w.setCell ⟨b, 0, none⟩ x0).setCell ⟨b, 1, none⟩ x1).setCell ⟨b, 2, none⟩ x2).setCell ⟨b, 3, none⟩ x3).setCell ⟨b, 4, none⟩ x4).setCell ⟨b, 5, none⟩ x5).setCell ⟨b, 6, none⟩ x6).setCell ⟨b, 7, none⟩ x7).setCell ⟨b, 8, none⟩ x8
theorem set9_other {w : World} {p b : Nat} (x0 x1 x2 x3 x4 x5 x6 x7 x8 : Value) (h : b ≠ p) : (set9 w p x0 x1 x2 x3 x4 x5 x6 x7 x8).heap[b]? = w.heap[b]? := by
  unfold set9
  rw [Below.heap_setCell _ _ _ _ h, Below.heap_setCell _ _ _ _ h, Below.heap_setCell _ _ _ _ h, Below.heap_setCell _ _ _ _ h, Below.heap_setCell _ _ _ _ h, Below.heap_setCell _ _ _ _ h, Below.heap_setCell _ _ _ _ h, Below.heap_setCell _ _ _ _ h, Below.heap_setCell _ _ _ _ h]
theorem below_set9 {B b : Nat} {a w : World} (h : Below B a w) (hb : B ≤ b) (x0 x1 x2 x3 x4 x5 x6 x7 x8 : Value) : Below B a (set9 w b x0 x1 x2 x3 x4 x5 x6 x7 x8) := ((((((((h.setCell hb _).setCell hb _).setCell hb _).setCell hb _).setCell hb _).setCell hb _).setCell hb _).setCell hb _).setCell hb _
theorem free9 {w : World} {b : Nat} {cs : Array Value} {T : TypeId} (h : w.heap[b]? = some (.cells cs T)) : w.frozen? ⟨b, 0, none⟩ = false ∧ w.frozen? ⟨b, 1, none⟩ = false ∧ w.frozen? ⟨b, 2, none⟩ = false ∧ w.frozen? ⟨b, 3, none⟩ = false ∧ w.frozen? ⟨b, 4, none⟩ = false ∧ w.frozen? ⟨b, 5, none⟩ = false ∧ w.frozen? ⟨b, 6, none⟩ = false ∧ w.frozen? ⟨b, 7, none⟩ = false ∧ w.frozen? ⟨b, 8, none⟩ = false :=
  ⟨free8 h 0, free8 h 1, free8 h 2, free8 h 3, free8 h 4, free8 h 5, free8 h 6, free8 h 7, free8 h 8⟩
set_option maxRecDepth 100000 in
set_option maxHeartbeats 4000000 in
theorem kit_LentTide {A1 A1' A2 A2' : Option Addr} {n1 c1 n1' c1' n2 c2 n2' c2' : Nat} {l1 l1' l2 l2' : List Nat} (nm : ByteArray) (f m : Int) (g1 g2 : Bool) (w : World) (h : Rd4 w A1 n1 c1 A1' n1' c1' A2 n2 c2 A2' n2' c2' l1 l1' l2 l2') :
    Calls Tryz.prog 109 #[.agg #[.string nm, .int .i32 f, .int .i32 m, .bool g1, .slice A1 n1 c1, .slice A1' n1' c1', .bool g2, .slice A2 n2 c2, .slice A2' n2' c2']] w fun e w' => ∃ b1 d1 b1' d1' b2 d2 b2' d2', e = .returned (.agg #[.string nm, .int .i32 f, .int .i32 m, .bool g1, .slice (some ⟨b1, 0, none⟩) n1 d1, .slice (some ⟨b1', 0, none⟩) n1' d1', .bool g2, .slice (some ⟨b2, 0, none⟩) n2 d2, .slice (some ⟨b2', 0, none⟩) n2' d2']) ∧ Lt4 w' b1 n1 d1 b1' n1' d1' b2 n2 d2 b2' n2' d2' l1 l1' l2 l2' ∧ Below w.heap.size w w' := by
  have HC := Lib.hid (fun w' (hb : Below w.heap.size w w') => kit_LentGauss g1 g2 w' (h.below hb))
  clear h
  obtain ⟨W0, hW0⟩ : ∃ W, (w.alloc (.cells #[.string nm, .int .i32 f, .int .i32 m, .bool g1, .slice A1 n1 c1, .slice A1' n1' c1', .bool g2, .slice A2 n2 c2, .slice A2' n2' c2'] 85)).alloc (.cells #[.string ⟨#[]⟩, .int .i32 0, .int .i32 0, .bool false, .slice none 0 0, .slice none 0 0, .bool false, .slice none 0 0, .slice none 0 0] 85) = W := ⟨_, rfl⟩
  have hb0 : Below w.heap.size w W0 := by rw [← hW0]; exact ((Below.refl _ _).alloc (Nat.le_refl _) _).alloc (by simp) _
  have k0 : W0.heap[w.heap.size]? = some (.cells #[.string nm, .int .i32 f, .int .i32 m, .bool g1, .slice A1 n1 c1, .slice A1' n1' c1', .bool g2, .slice A2 n2 c2, .slice A2' n2' c2'] 85) := by rw [← hW0]; exact alloc_keep (heap_alloc_new w _) _
  have k1 : W0.heap[w.heap.size + 1]? = some (.cells #[.string ⟨#[]⟩, .int .i32 0, .int .i32 0, .bool false, .slice none 0 0, .slice none 0 0, .bool false, .slice none 0 0, .slice none 0 0] 85) := by rw [← hW0]; exact heap_new _ (by simp)
  have HA := Lib.hid (And.intro hb0 (And.intro k0 k1))
  have HF := Lib.hid (fun w' (hB : Below W0.heap.size W0 w') => cell9 (blk_below hB k0))
  clear hb0 k0 k1
  go_enter Tryz.func109, Tryz.ntmps109
  go_upto_region 1 with fail
  have HW0 := Lib.hid hW0
  clear hW0
  have hBs : Below W0.heap.size W0 W0.drew := below_drewN (Below.refl _ _) 1
  go_region_held3 (fun w' => w'.cell? ⟨w.heap.size, 0, none⟩ = some (.string nm) ∧ w'.cell? ⟨w.heap.size, 1, none⟩ = some (.int .i32 f) ∧ w'.cell? ⟨w.heap.size, 2, none⟩ = some (.int .i32 m) ∧ w'.cell? ⟨w.heap.size, 3, none⟩ = some (.bool g1) ∧ w'.cell? ⟨w.heap.size, 4, none⟩ = some (.slice A1 n1 c1) ∧ w'.cell? ⟨w.heap.size, 5, none⟩ = some (.slice A1' n1' c1') ∧ w'.cell? ⟨w.heap.size, 6, none⟩ = some (.bool g2) ∧ w'.cell? ⟨w.heap.size, 7, none⟩ = some (.slice A2 n2 c2) ∧ w'.cell? ⟨w.heap.size, 8, none⟩ = some (.slice A2' n2' c2'))
    (first
      | with_reducible exact HF.out _ hBs
      | with_reducible exact HF.out _ hBc2
      | (obtain ⟨u0, u1, u2, u3, u4, u5, u6, u7, u8⟩ := HF.out _ hBc2; go_simp))
    ((go_at_call 83; (with_reducible refine (HC.out _ (bel_step HA.out.1 hBs)).mono ?_); rintro e w2 ⟨b1, d1, b1', d1', b2, d2, b2', d2', rfl, hL, hB2⟩; have hBc2 := bel_step hBs hB2; obtain ⟨s0, s1, s2, s3, s4, s5, s6, s7, s8⟩ := cell9 (blk_below hBc2 HA.out.2.2); obtain ⟨f0, f1, f2, f3, f4, f5, f6, f7, f8⟩ := free9 (blk_below hBc2 HA.out.2.2)))
  have HFin := Lib.hid (And.intro hL (And.intro (bel_step HA.out.1 hBc2) s0))
  clear hL hB2 hBc2 hBs
  go_wp2_with fail
  exact bodyPost_ret (v := .agg #[.string nm, .int .i32 f, .int .i32 m, .bool g1, .slice (some ⟨b1, 0, none⟩) n1 d1, .slice (some ⟨b1', 0, none⟩) n1' d1', .bool g2, .slice (some ⟨b2, 0, none⟩) n2 d2, .slice (some ⟨b2', 0, none⟩) n2' d2']) (by simp [results, Tryz.results109, go_sem, *]) rfl
    ⟨_, _, _, _, _, _, _, _, rfl, HFin.out.1.apart HFin.out.2.2 rfl (fun b hb => set9_other _ _ _ _ _ _ _ _ _ hb), below_set9 HFin.out.2.1 (Nat.le_succ _) _ _ _ _ _ _ _ _ _⟩
end Go.Proofs.YtcbkijeonilcjaaGreat
