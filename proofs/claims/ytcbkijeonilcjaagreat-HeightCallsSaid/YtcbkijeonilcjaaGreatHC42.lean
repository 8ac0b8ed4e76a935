/- The kit of the statements: fractions that were lent are as they were. -/
import Derived.Test.YtcbkijeonilcjaaGreatHC41
namespace Go.Proofs.YtcbkijeonilcjaaGreat
open Go.RowKit

set_option maxRecDepth 100000 in
set_option maxHeartbeats 2000000 in
theorem kit_KeptRatio (g : Bool) (b b' cc cc' : Nat) (A A' : Option Addr) (n n' c c' : Nat) (l l' : List Nat) (w : World) (k : LtW w b n cc l) (k' : LtW w b' n' cc' l') (h : Rd w A n c l) (h' : Rd w A' n' c' l') (hn : n ≤ 100000) (hn' : n' ≤ 100000) :
    Calls Tryz.prog 63 #[.agg #[.bool g, .slice (some ⟨b, 0, none⟩) n cc, .slice (some ⟨b', 0, none⟩) n' cc'], .agg #[.bool g, .slice A n c, .slice A' n' c']] w fun e w' => e = .returned (.bool true) ∧ Below w.heap.size w w' := by
  have HC := Lib.hid (fun w' (hb : Below w.heap.size w w') => kit_KeptWords (some ⟨b, 0, none⟩) A n cc c l w' (k.rd.below hb) (h.below hb) hn)
  have HC' := Lib.hid (fun w' (hb : Below w.heap.size w w') => kit_KeptWords (some ⟨b', 0, none⟩) A' n' cc' c' l' w' (k'.rd.below hb) (h'.below hb) hn')
  have hcap := k.cap
  have hcap' := k'.cap
  have u1 : IntKind.i64.wrap ((n : Int) + 3) = (n : Int) + 3 := IntWalk.i64_in _ (by omega)
  have u2 : (0 : Int) ≤ (n : Int) + 3 := by omega
  have u3 : (n : Int) + 3 ≤ (cc : Int) := by omega
  have u4 : ((n : Int) + 3).toNat = n + 3 := by omega
  have v1 : IntKind.i64.wrap ((n' : Int) + 3) = (n' : Int) + 3 := IntWalk.i64_in _ (by omega)
  have v2 : (0 : Int) ≤ (n' : Int) + 3 := by omega
  have v3 : (n' : Int) + 3 ≤ (cc' : Int) := by omega
  have v4 : ((n' : Int) + 3).toNat = n' + 3 := by omega
  clear k k' h h' hcap hcap'
  obtain ⟨W0, hW0⟩ : ∃ W, (w.alloc (.cells #[.bool g, .slice (some ⟨b, 0, none⟩) n cc, .slice (some ⟨b', 0, none⟩) n' cc'] 24)).alloc (.cells #[.bool g, .slice A n c, .slice A' n' c'] 24) = W := ⟨_, rfl⟩
  have hb0 : Below w.heap.size w W0 := by rw [← hW0]; exact ((Below.refl _ _).alloc (Nat.le_refl _) _).alloc (by simp) _
  have k0 : W0.heap[w.heap.size]? = some (.cells #[.bool g, .slice (some ⟨b, 0, none⟩) n cc, .slice (some ⟨b', 0, none⟩) n' cc'] 24) := by rw [← hW0]; exact alloc_keep (heap_alloc_new w _) _
  have k1 : W0.heap[w.heap.size + 1]? = some (.cells #[.bool g, .slice A n c, .slice A' n' c'] 24) := by rw [← hW0]; exact heap_new _ (by simp)
  have HA := Lib.hid hb0
  have HF := Lib.hid (fun w' (hB : Below W0.heap.size W0 w') => (show w'.cell? ⟨w.heap.size, 0, none⟩ = some (.bool g) ∧ w'.cell? ⟨w.heap.size, 1, none⟩ = some (.slice (some ⟨b, 0, none⟩) n cc) ∧ w'.cell? ⟨w.heap.size, 2, none⟩ = some (.slice (some ⟨b', 0, none⟩) n' cc') ∧ w'.cell? ⟨w.heap.size + 1, 0, none⟩ = some (.bool g) ∧ w'.cell? ⟨w.heap.size + 1, 1, none⟩ = some (.slice A n c) ∧ w'.cell? ⟨w.heap.size + 1, 2, none⟩ = some (.slice A' n' c') from
    ⟨(cell3 (blk_below hB k0)).1, (cell3 (blk_below hB k0)).2.1, (cell3 (blk_below hB k0)).2.2.1, (cell3 (blk_below hB k1)).1, (cell3 (blk_below hB k1)).2.1, (cell3 (blk_below hB k1)).2.2.1⟩))
  clear hb0 k0 k1
  go_enter Tryz.func63, Tryz.ntmps63
  go_upto_region 1 with fail
  have HW0 := Lib.hid hW0
  clear hW0
  have hBs : Below W0.heap.size W0 W0.drew := below_drewN (Below.refl _ _) 1
  go_region_held3 (fun w' => w'.cell? ⟨w.heap.size, 0, none⟩ = some (.bool g) ∧ w'.cell? ⟨w.heap.size, 1, none⟩ = some (.slice (some ⟨b, 0, none⟩) n cc) ∧ w'.cell? ⟨w.heap.size, 2, none⟩ = some (.slice (some ⟨b', 0, none⟩) n' cc') ∧ w'.cell? ⟨w.heap.size + 1, 0, none⟩ = some (.bool g) ∧ w'.cell? ⟨w.heap.size + 1, 1, none⟩ = some (.slice A n c) ∧ w'.cell? ⟨w.heap.size + 1, 2, none⟩ = some (.slice A' n' c'))
    (first
      | with_reducible exact HF.out _ hBs
      | with_reducible exact HF.out _ hBc2
      | with_reducible exact HF.out _ hBc3)
    (first
      | (go_at_call 133; (with_reducible refine (HC.out _ (bel_step HA.out hBs)).mono ?_); rintro e w2 ⟨rfl, hB2⟩; have hBc2 := bel_step hBs hB2)
      | (go_at_call 133; (with_reducible refine (HC'.out _ (bel_step HA.out hBc2)).mono ?_); rintro e w3 ⟨rfl, hB3⟩; have hBc3 := bel_step hBc2 hB3))
  have HFin := Lib.hid (bel_step HA.out hBc3)
  clear hB2 hB3 hBc2 hBs hBc3
  go_wp2_with fail
  go_ret
  exact ⟨rfl, HFin.out⟩
set_option maxRecDepth 100000 in
set_option maxHeartbeats 2000000 in
theorem kit_SameRatio (g : Bool) (B B' : Option Addr) (d d' : Nat) (A A' : Option Addr) (n n' c c' : Nat) (l l' : List Nat) (w : World) (k : Rd w B n d l) (k' : Rd w B' n' d' l') (h : Rd w A n c l) (h' : Rd w A' n' c' l') :
    Calls Tryz.prog 79 #[.agg #[.bool g, .slice B n d, .slice B' n' d'], .agg #[.bool g, .slice A n c, .slice A' n' c']] w fun e w' => e = .returned (.bool true) ∧ Below w.heap.size w w' := by
  have HC := Lib.hid (fun w' (hb : Below w.heap.size w w') => kit_SameWords B A n n d c l l w' (k.below hb) (h.below hb))
  have HC' := Lib.hid (fun w' (hb : Below w.heap.size w w') => kit_SameWords B' A' n' n' d' c' l' l' w' (k'.below hb) (h'.below hb))
  rw [show decide (l = l) = true from by simp] at HC
  rw [show decide (l' = l') = true from by simp] at HC'
  clear k k' h h'
  obtain ⟨W0, hW0⟩ : ∃ W, (w.alloc (.cells #[.bool g, .slice B n d, .slice B' n' d'] 24)).alloc (.cells #[.bool g, .slice A n c, .slice A' n' c'] 24) = W := ⟨_, rfl⟩
  have hb0 : Below w.heap.size w W0 := by rw [← hW0]; exact ((Below.refl _ _).alloc (Nat.le_refl _) _).alloc (by simp) _
  have k0 : W0.heap[w.heap.size]? = some (.cells #[.bool g, .slice B n d, .slice B' n' d'] 24) := by rw [← hW0]; exact alloc_keep (heap_alloc_new w _) _
  have k1 : W0.heap[w.heap.size + 1]? = some (.cells #[.bool g, .slice A n c, .slice A' n' c'] 24) := by rw [← hW0]; exact heap_new _ (by simp)
  have HA := Lib.hid (And.intro hb0 (And.intro k0 k1))
  obtain ⟨r0, r1, r2, r3, r4, r5⟩ := cell3 k0
  obtain ⟨s0, s1, s2, s3, s4, s5⟩ := cell3 k1
  clear hb0 k0 k1
  go_enter Tryz.func79, Tryz.ntmps79
  go_wp2_with fail
  have HW0 := Lib.hid hW0
  clear hW0
  refine (HC.out W0 HA.out.1).mono ?_
  rintro e w1 ⟨rfl, hd⟩
  have H1 := Lib.hid (And.intro (bel_step HA.out.1 (hd.below _)) (And.intro (blk_below (hd.below _) HA.out.2.1) (blk_below (hd.below _) HA.out.2.2)))
  clear r0 r1 r2 r3 r4 r5 s0 s1 s2 s3 s4 s5 hd
  obtain ⟨r0, r1, r2, r3, r4, r5⟩ := cell3 H1.out.2.1
  obtain ⟨s0, s1, s2, s3, s4, s5⟩ := cell3 H1.out.2.2
  go_wp2_with fail
  refine (HC'.out w1 H1.out.1).mono ?_
  rintro e w2 ⟨rfl, hd⟩
  have H2 := Lib.hid (bel_step H1.out.1 (hd.below _))
  clear hd r0 r1 r2 r3 r4 r5 s0 s1 s2 s3 s4 s5
  go_wp2_with fail
  go_ret
  exact ⟨rfl, H2.out⟩
end Go.Proofs.YtcbkijeonilcjaaGreat
