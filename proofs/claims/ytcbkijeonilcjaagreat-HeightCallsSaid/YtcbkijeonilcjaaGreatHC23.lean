/- The reference of layer 2: sums, differences, products. -/
import Derived.Test.YtcbkijeonilcjaaGreatHC18
import Derived.Test.YtcbkijeonilcjaaGreatHC22
import Derived.Deep.CutRange
namespace Go.Proofs.YtcbkijeonilcjaaGreat
open Go.RowKit

theorem boxes2 {W0 W : World} {i j : Nat} {a b c d : Value} {T : TypeId} (h1 : W0.heap[i]? = some (.cells #[a, b] T)) (h2 : W0.heap[j]? = some (.cells #[c, d] T)) (hB : Below W0.heap.size W0 W) :
    W.cell? ⟨i, 0, none⟩ = some a ∧ W.cell? ⟨i, 1, none⟩ = some b ∧ W.cell? ⟨j, 0, none⟩ = some c ∧ W.cell? ⟨j, 1, none⟩ = some d := by
  obtain ⟨x0, x1, _, _⟩ := cell2 (blk_below hB h1)
  obtain ⟨y0, y1, _, _⟩ := cell2 (blk_below hB h2)
  exact ⟨x0, x1, y0, y1⟩
theorem WhO.agg {w : World} {lo : Nat} {v : Value} {z : Int} (h : WhO w lo v z) : ∃ A c, v = .agg #[.bool (decide (z < 0)), .slice A (wl z.natAbs) c] := by
  obtain ⟨A, c, e, _⟩ := h.rd
  exact ⟨A, c, e⟩
theorem sg_ne (a b : Int) : sg (decide (a < 0) != decide (b < 0)) (a.natAbs * b.natAbs) = a * b := by
  have h : ((a.natAbs * b.natAbs : Nat) : Int) = (a * b).natAbs := by rw [Int.natAbs_mul]
  unfold sg
  rw [h]
  by_cases h1 : a < 0 <;> by_cases h2 : b < 0
  · have : 0 ≤ a * b := Int.mul_nonneg_of_nonpos_of_nonpos (by omega) (by omega)
    simp [h1, h2]; omega
  · have : a * b ≤ 0 := Int.mul_nonpos_of_nonpos_of_nonneg (by omega) (by omega)
    simp [h1, h2]; omega
  · have : a * b ≤ 0 := Int.mul_nonpos_of_nonneg_of_nonpos (by omega) (by omega)
    simp [h1, h2]; omega
  · have : 0 ≤ a * b := Int.mul_nonneg (by omega) (by omega)
    simp [h1, h2]; omega

set_option maxHeartbeats 1000000 in
theorem ref02_Product {va vb : Value} {a b : Int} (w : World) (ha : WhR w va a) (hb : WhR w vb b) (la : wl a.natAbs ≤ 50000) (lb : wl b.natAbs ≤ 50000) :
    Calls Tryz.prog 209 #[va, vb] w fun e w' => ∃ v, e = .returned v ∧ WhO w' w.heap.size v (a * b) ∧ Below w.heap.size w w' := by
  obtain ⟨A, c, rfl, hA⟩ := ha
  obtain ⟨B, d, rfl, hB⟩ := hb
  generalize hsa : decide (a < 0) = sa
  generalize hsb : decide (b < 0) = sb
  obtain ⟨W0, hW0⟩ : ∃ x, ((w.alloc (.cells #[.bool sa, .slice A (wl a.natAbs) c] 233)).alloc (.cells #[.bool sb, .slice B (wl b.natAbs) d] 233)).alloc (.cells #[.bool false, .slice none 0 0] 233) = x := ⟨_, rfl⟩
  have hb0 : Below w.heap.size w W0 := by rw [← hW0]; exact (((Below.refl _ _).alloc (Nat.le_refl _) _).alloc (by simp) _).alloc (by simp; omega) _
  have hs0 : W0.heap.size = w.heap.size + 3 := by rw [← hW0]; simp
  have k1 : W0.heap[w.heap.size]? = some (.cells #[.bool sa, .slice A (wl a.natAbs) c] 233) := by rw [← hW0]; exact alloc_keep (alloc_keep (heap_alloc_new w _) _) _
  have k2 : W0.heap[w.heap.size + 1]? = some (.cells #[.bool sb, .slice B (wl b.natAbs) d] 233) := by rw [← hW0]; exact alloc_keep (heap_new _ (by simp)) _
  have k3 : W0.heap[w.heap.size + 1 + 1]? = some (.cells #[.bool false, .slice none 0 0] 233) := by rw [← hW0]; exact heap_new _ (by simp)
  have HK := Lib.hid (And.intro hb0 (And.intro hs0 (And.intro k1 (And.intro k2 k3))))
  have R1 := hA.below hb0
  have R2 := hB.below hb0
  obtain ⟨z0, z1, z2, z3⟩ := boxes2 k1 k2 (Below.refl _ _)
  clear hb0 hs0 k1 k2 k3 hA hB
  have HSG : Hid (sg (!(sa == sb)) (a.natAbs * b.natAbs) = a * b) := by
    show sg (!(sa == sb)) (a.natAbs * b.natAbs) = a * b
    rw [← hsa, ← hsb]; exact sg_ne a b
  clear hsa hsb
  go_enter Tryz.func209, Tryz.ntmps209
  go_wp2_with fail
  have HW0 := Lib.hid hW0
  clear hW0
  have hd0 : Below W0.heap.size W0 W0.drew := below_drewN (Below.refl _ _) 1
  go_region_held3 (fun w' => w'.cell? ⟨w.heap.size, 0, none⟩ = some (.bool sa) ∧ w'.cell? ⟨w.heap.size, 1, none⟩ = some (.slice A (wl a.natAbs) c) ∧ w'.cell? ⟨w.heap.size + 1, 0, none⟩ = some (.bool sb) ∧ w'.cell? ⟨w.heap.size + 1, 1, none⟩ = some (.slice B (wl b.natAbs) d))
    (first
      | exact boxes2 HK.out.2.2.1 HK.out.2.2.2.1 hd0
      | exact boxes2 HK.out.2.2.1 HK.out.2.2.2.1 hB2
      | exact boxes2 HK.out.2.2.1 HK.out.2.2.2.1 hB3
      | (obtain ⟨u0, u1, u2, u3⟩ := boxes2 HK.out.2.2.1 HK.out.2.2.2.1 hB3; go_simp; done))
    (first
      | (go_at_call 283; (with_reducible refine (ref01_Times A B c d a.natAbs b.natAbs _ (R1.below hd0) (R2.below hd0) (by omega) (by omega)).mono ?_); rintro e w2 ⟨v2, rfl, hO2, hB2'⟩; have hB2 := bel_step hd0 hB2'; have hB2s := hB2.size; obtain ⟨A2, c2, rfl, hR2⟩ := hO2.wl0)
      | (go_at_call 280; (with_reducible refine (ref02_made (!(sa == sb)) A2 _ c2 _ _ hR2).mono ?_); rintro e w3 ⟨v3, rfl, hW3, hB3'⟩; have hB3 := bel_step hB2 hB3'; (simp only [val_wds] at hW3); rw [HSG.out] at hW3; obtain ⟨A3, c3, rfl⟩ := hW3.agg; obtain ⟨q0, q1, q2, q3⟩ := cell2 (blk_below hB3 HK.out.2.2.2.2); have hs3 := hB3.size))
  have HF := Lib.hid (And.intro hW3 hB3)
  clear hW3 hB3 hB2 hB2' hB3' hO2 hR2
  go_wp2_with fail
  exact bodyPost_ret (v := .agg #[.bool (decide (a * b < 0)), .slice A3 (wl (a * b).natAbs) c3]) (by simp [results, Tryz.results209, go_sem, q0, q1]) rfl
    ⟨_, rfl, (HF.out.1.set2 (by have := HK.out.2.1; have := hB2s; omega)).mono (by have := HK.out.2.1; have := hB2s; omega), ((HK.out.1.trans (HF.out.2.mono HK.out.1.size)).setCell (by show w.heap.size ≤ w.heap.size + 1 + 1; omega) _).setCell (by show w.heap.size ≤ w.heap.size + 1 + 1; omega) _⟩

theorem sg_add (a b : Int) (h : decide (a < 0) = decide (b < 0)) : sg (decide (a < 0)) (a.natAbs + b.natAbs) = a + b := by
  rw [decide_eq_decide] at h
  unfold sg
  by_cases h1 : a < 0
  · have := h.1 h1; simp [h1]; omega
  · have h2 : ¬ b < 0 := fun h3 => h1 (h.2 h3)
    simp [h1]; omega
theorem sg_sub (a b : Int) (h : decide (a < 0) ≠ decide (b < 0)) (hl : b.natAbs ≤ a.natAbs) : sg (decide (a < 0)) (a.natAbs - b.natAbs) = a + b := by
  unfold sg
  by_cases h1 : a < 0 <;> by_cases h2 : b < 0
  · simp [h1, h2] at h
  · simp [h1]; omega
  · simp [h1]; omega
  · simp [h1, h2] at h
theorem set2_own {w : World} {b : Nat} {x y x' y' : Value} {T : TypeId} (h : w.heap[b]? = some (.cells #[x', y'] T (0, 0))) : ((w.setCell ⟨b, 0, none⟩ x).setCell ⟨b, 1, none⟩ y).heap[b]? = some (.cells #[x, y] T (0, 0)) := by
  unfold World.setCell
  simp [Array.getElem?_modify, h]
theorem set2_keep {w : World} {b b' : Nat} {x y : Value} {o : Obj} (h : w.heap[b]? = some o) (hne : b ≠ b') : ((w.setCell ⟨b', 0, none⟩ x).setCell ⟨b', 1, none⟩ y).heap[b]? = some o := by
  rw [Below.heap_setCell _ _ _ _ hne, Below.heap_setCell _ _ _ _ hne]; exact h

set_option maxHeartbeats 1000000 in
theorem ref02_Opposite {va : Value} {a : Int} (w : World) (ha : WhR w va a) :
    Calls Tryz.prog 207 #[va] w fun e w' => ∃ v, e = .returned v ∧ WhO w' w.heap.size v (-a) ∧ Below w.heap.size w w' := by
  obtain ⟨A, c, rfl, hA⟩ := ha
  generalize hsa : decide (a < 0) = sa
  obtain ⟨W0, hW0⟩ : ∃ x, (w.alloc (.cells #[.bool sa, .slice A (wl a.natAbs) c] 233)).alloc (.cells #[.bool false, .slice none 0 0] 233) = x := ⟨_, rfl⟩
  have hb0 : Below w.heap.size w W0 := by rw [← hW0]; exact ((Below.refl _ _).alloc (Nat.le_refl _) _).alloc (by simp) _
  have hs0 : W0.heap.size = w.heap.size + 2 := by rw [← hW0]; simp
  have k1 : W0.heap[w.heap.size]? = some (.cells #[.bool sa, .slice A (wl a.natAbs) c] 233) := by rw [← hW0]; exact alloc_keep (heap_alloc_new w _) _
  have k2 : W0.heap[w.heap.size + 1]? = some (.cells #[.bool false, .slice none 0 0] 233) := by rw [← hW0]; exact heap_new _ (by simp)
  have HK := Lib.hid (And.intro hb0 (And.intro hs0 (And.intro k1 k2)))
  have R1 := hA.below hb0
  obtain ⟨z0, z1, _, _⟩ := cell2 k1
  have HSG : Hid (sg (!sa) a.natAbs = -a) := by
    show sg (!sa) a.natAbs = -a
    rw [← hsa]; unfold sg
    by_cases h1 : a < 0 <;> simp [h1] <;> omega
  clear hb0 hs0 k1 k2 hA hsa
  go_enter Tryz.func207, Tryz.ntmps207
  go_wp2_with fail
  have HW0 := Lib.hid hW0
  clear hW0
  refine (ref02_made (!sa) A _ c _ _ R1).mono ?_
  rintro e w3 ⟨v3, rfl, hW3, hB3⟩
  (simp only [val_wds] at hW3); rw [HSG.out] at hW3
  obtain ⟨A3, c3, rfl⟩ := hW3.agg
  obtain ⟨q0, q1, q2, q3⟩ := cell2 (blk_below hB3 HK.out.2.2.2)
  have hs3 := hB3.size
  have HF := Lib.hid (And.intro hW3 hB3)
  clear hW3 hB3
  go_wp2_with fail
  exact bodyPost_ret (v := .agg #[.bool (decide (-a < 0)), .slice A3 (wl (-a).natAbs) c3]) (by simp [results, Tryz.results207, go_sem, q0, q1]) rfl
    ⟨_, rfl, (HF.out.1.set2 (by have := HK.out.2.1; omega)).mono (by have := HK.out.2.1; omega), ((HK.out.1.trans (HF.out.2.mono HK.out.1.size)).setCell (by show w.heap.size ≤ w.heap.size + 1; omega) _).setCell (by show w.heap.size ≤ w.heap.size + 1; omega) _⟩

set_option maxHeartbeats 2000000 in
theorem ref02_Plus_same {va vb : Value} {a b : Int} (w : World) (ha : WhR w va a) (hb : WhR w vb b) (la : wl a.natAbs ≤ 50000) (lb : wl b.natAbs ≤ 50000) (hs : decide (a < 0) = decide (b < 0)) :
    Calls Tryz.prog 208 #[va, vb] w fun e w' => ∃ v, e = .returned v ∧ WhO w' w.heap.size v (a + b) ∧ Below w.heap.size w w' := by
  obtain ⟨A, c, rfl, hA⟩ := ha
  obtain ⟨B, d, rfl, hB⟩ := hb
  have hsg := sg_add a b hs
  rw [← hs]
  generalize hsa : decide (a < 0) = sa at *
  obtain ⟨sb, hsb⟩ : ∃ sb, sb = sa := ⟨_, rfl⟩
  have HSG := Lib.hid hsg
  clear hsg hs hsa
  subst hsb
  obtain ⟨W0, hW0⟩ : ∃ x, ((w.alloc (.cells #[.bool sb, .slice A (wl a.natAbs) c] 233)).alloc (.cells #[.bool sb, .slice B (wl b.natAbs) d] 233)).alloc (.cells #[.bool false, .slice none 0 0] 233) = x := ⟨_, rfl⟩
  have hb0 : Below w.heap.size w W0 := by rw [← hW0]; exact (((Below.refl _ _).alloc (Nat.le_refl _) _).alloc (by simp) _).alloc (by simp; omega) _
  have hs0 : W0.heap.size = w.heap.size + 3 := by rw [← hW0]; simp
  have k1 : W0.heap[w.heap.size]? = some (.cells #[.bool sb, .slice A (wl a.natAbs) c] 233) := by rw [← hW0]; exact alloc_keep (alloc_keep (heap_alloc_new w _) _) _
  have k2 : W0.heap[w.heap.size + 1]? = some (.cells #[.bool sb, .slice B (wl b.natAbs) d] 233) := by rw [← hW0]; exact alloc_keep (heap_new _ (by simp)) _
  have k3 : W0.heap[w.heap.size + 1 + 1]? = some (.cells #[.bool false, .slice none 0 0] 233) := by rw [← hW0]; exact heap_new _ (by simp)
  have HK := Lib.hid (And.intro hb0 (And.intro hs0 (And.intro k1 (And.intro k2 k3))))
  have R1 := hA.below hb0
  have R2 := hB.below hb0
  obtain ⟨z0, z1, z2, z3⟩ := boxes2 k1 k2 (Below.refl _ _)
  clear hb0 hs0 k1 k2 k3 hA hB
  have ee : (sb == sb) = true := by simp
  go_enter Tryz.func208, Tryz.ntmps208
  go_wp2_with fail
  have HW0 := Lib.hid hW0
  clear hW0
  have hd0 : Below W0.heap.size W0 W0.drew := below_drewN (Below.refl _ _) 1
  go_region_held3 (fun w' => w'.cell? ⟨w.heap.size, 0, none⟩ = some (.bool sb) ∧ w'.cell? ⟨w.heap.size, 1, none⟩ = some (.slice A (wl a.natAbs) c) ∧ w'.cell? ⟨w.heap.size + 1, 0, none⟩ = some (.bool sb) ∧ w'.cell? ⟨w.heap.size + 1, 1, none⟩ = some (.slice B (wl b.natAbs) d))
    (first
      | exact boxes2 HK.out.2.2.1 HK.out.2.2.2.1 hd0
      | exact boxes2 HK.out.2.2.1 HK.out.2.2.2.1 hB2
      | exact boxes2 HK.out.2.2.1 HK.out.2.2.2.1 hB3
      | (obtain ⟨u0, u1, u2, u3⟩ := boxes2 HK.out.2.2.1 HK.out.2.2.2.1 hB3; go_simp; done))
    (first
      | (go_at_call 281; (with_reducible refine (ref01_Plus A B _ c _ d _ _ _ (R1.below hd0) (R2.below hd0) (by omega) (by omega)).mono ?_); rintro e w2 ⟨v2, rfl, hO2, hB2'⟩; have hB2 := bel_step hd0 hB2'; have hB2s := hB2.size; obtain ⟨A2, c2, rfl, hR2⟩ := hO2.wl0)
      | (go_at_call 280; (with_reducible refine (ref02_made sb A2 _ c2 _ _ hR2).mono ?_); rintro e w3 ⟨v3, rfl, hW3, hB3'⟩; have hB3 := bel_step hB2 hB3'; (simp only [val_wds] at hW3); rw [HSG.out] at hW3; obtain ⟨A3, c3, rfl⟩ := hW3.agg; obtain ⟨q0, q1, q2, q3⟩ := cell2 (blk_below hB3 HK.out.2.2.2.2); have hs3 := hB3.size))
  have HF := Lib.hid (And.intro hW3 hB3)
  clear hW3 hB3 hB2 hB2' hB3' hO2 hR2
  go_wp2_with fail
  exact bodyPost_ret (v := .agg #[.bool (decide (a + b < 0)), .slice A3 (wl (a + b).natAbs) c3]) (by simp [results, Tryz.results208, go_sem, q0, q1]) rfl
    ⟨_, rfl, (HF.out.1.set2 (by have := HK.out.2.1; have := hB2s; omega)).mono (by have := HK.out.2.1; have := hB2s; omega), ((HK.out.1.trans (HF.out.2.mono HK.out.1.size)).setCell (by show w.heap.size ≤ w.heap.size + 1 + 1; omega) _).setCell (by show w.heap.size ≤ w.heap.size + 1 + 1; omega) _⟩

set_option maxHeartbeats 2000000 in
theorem ref02_Plus_ge {va vb : Value} {a b : Int} (w : World) (ha : WhR w va a) (hb : WhR w vb b) (la : wl a.natAbs ≤ 50000) (_lb : wl b.natAbs ≤ 50000) (hs : decide (a < 0) ≠ decide (b < 0)) (hl : b.natAbs ≤ a.natAbs) :
    Calls Tryz.prog 208 #[va, vb] w fun e w' => ∃ v, e = .returned v ∧ WhO w' w.heap.size v (a + b) ∧ Below w.heap.size w w' := by
  obtain ⟨A, c, rfl, hA⟩ := ha
  obtain ⟨B, d, rfl, hB⟩ := hb
  have hsg := sg_sub a b hs hl
  generalize hsa : decide (a < 0) = sa at *
  generalize hsb : decide (b < 0) = sb at *
  have HSG := Lib.hid hsg
  have ee : (sa == sb) = false := by simp [hs]
  have HL : Hid (val (wds b.natAbs) ≤ val (wds a.natAbs)) := by show _ ≤ _; rw [val_wds, val_wds]; exact hl
  have hcm2 : (cmpN a.natAbs b.natAbs < 0) = False := by simp only [eq_iff_iff, iff_false]; unfold cmpN; rw [if_neg (by omega)]; split <;> omega
  clear hsg hs hsa hsb hl
  obtain ⟨W0, hW0⟩ : ∃ x, ((w.alloc (.cells #[.bool sa, .slice A (wl a.natAbs) c] 233)).alloc (.cells #[.bool sb, .slice B (wl b.natAbs) d] 233)).alloc (.cells #[.bool false, .slice none 0 0] 233) = x := ⟨_, rfl⟩
  have hb0 : Below w.heap.size w W0 := by rw [← hW0]; exact (((Below.refl _ _).alloc (Nat.le_refl _) _).alloc (by simp) _).alloc (by simp; omega) _
  have hs0 : W0.heap.size = w.heap.size + 3 := by rw [← hW0]; simp
  have k1 : W0.heap[w.heap.size]? = some (.cells #[.bool sa, .slice A (wl a.natAbs) c] 233) := by rw [← hW0]; exact alloc_keep (alloc_keep (heap_alloc_new w _) _) _
  have k2 : W0.heap[w.heap.size + 1]? = some (.cells #[.bool sb, .slice B (wl b.natAbs) d] 233) := by rw [← hW0]; exact alloc_keep (heap_new _ (by simp)) _
  have k3 : W0.heap[w.heap.size + 1 + 1]? = some (.cells #[.bool false, .slice none 0 0] 233) := by rw [← hW0]; exact heap_new _ (by simp)
  have HK := Lib.hid (And.intro hb0 (And.intro hs0 (And.intro k1 (And.intro k2 k3))))
  have R1 := hA.below hb0
  have R2 := hB.below hb0
  obtain ⟨z0, z1, z2, z3⟩ := boxes2 k1 k2 (Below.refl _ _)
  clear hb0 hs0 k1 k2 k3 hA hB
  go_enter Tryz.func208, Tryz.ntmps208
  go_wp2_with fail
  refine (ref01_Compare A B _ c _ d _ _ _ R1 R2).mono ?_
  rintro e W1 ⟨rfl, nd, rfl⟩
  rw [val_wds, val_wds]
  go_wp2_with fail
  have HW0 := Lib.hid hW0
  clear hW0
  have hd0 : Below W0.heap.size W0 (W0.drewN (nd + 1)) := below_drewN (Below.refl _ _) (nd + 1)
  go_region_held3 (fun w' => w'.cell? ⟨w.heap.size, 0, none⟩ = some (.bool sa) ∧ w'.cell? ⟨w.heap.size, 1, none⟩ = some (.slice A (wl a.natAbs) c) ∧ w'.cell? ⟨w.heap.size + 1, 0, none⟩ = some (.bool sb) ∧ w'.cell? ⟨w.heap.size + 1, 1, none⟩ = some (.slice B (wl b.natAbs) d))
    (first
      | exact boxes2 HK.out.2.2.1 HK.out.2.2.2.1 hd0
      | exact boxes2 HK.out.2.2.1 HK.out.2.2.2.1 hB2
      | exact boxes2 HK.out.2.2.1 HK.out.2.2.2.1 hB3
      | (obtain ⟨u0, u1, u2, u3⟩ := boxes2 HK.out.2.2.1 HK.out.2.2.2.1 hB3; go_simp; done))
    (first
      | (go_at_call 282; (with_reducible refine (ref01_Less A B _ c _ d _ _ _ (R1.below hd0) (R2.below hd0) (by omega) HL.out).mono ?_); rintro e w2 ⟨v2, rfl, hO2, hB2'⟩; have hB2 := bel_step hd0 hB2'; have hB2s := hB2.size; obtain ⟨A2, c2, rfl, hR2⟩ := hO2.wl0)
      | (go_at_call 280; (with_reducible refine (ref02_made sa A2 _ c2 _ _ hR2).mono ?_); rintro e w3 ⟨v3, rfl, hW3, hB3'⟩; have hB3 := bel_step hB2 hB3'; (simp only [val_wds] at hW3); rw [HSG.out] at hW3; obtain ⟨A3, c3, rfl⟩ := hW3.agg; obtain ⟨q0, q1, q2, q3⟩ := cell2 (blk_below hB3 HK.out.2.2.2.2); have hs3 := hB3.size))
  have HF := Lib.hid (And.intro hW3 hB3)
  clear hW3 hB3 hB2 hB2' hB3' hO2 hR2
  go_wp2_with fail
  exact bodyPost_ret (v := .agg #[.bool (decide (a + b < 0)), .slice A3 (wl (a + b).natAbs) c3]) (by simp [results, Tryz.results208, go_sem, q0, q1]) rfl
    ⟨_, rfl, (HF.out.1.set2 (by have := HK.out.2.1; have := hB2s; omega)).mono (by have := HK.out.2.1; have := hB2s; omega), ((HK.out.1.trans (HF.out.2.mono HK.out.1.size)).setCell (by show w.heap.size ≤ w.heap.size + 1 + 1; omega) _).setCell (by show w.heap.size ≤ w.heap.size + 1 + 1; omega) _⟩

set_option maxHeartbeats 2000000 in
theorem ref02_Plus_lt {va vb : Value} {a b : Int} (w : World) (ha : WhR w va a) (hb : WhR w vb b) (_la : wl a.natAbs ≤ 50000) (lb : wl b.natAbs ≤ 50000) (hs : decide (a < 0) ≠ decide (b < 0)) (hl : a.natAbs < b.natAbs) :
    Calls Tryz.prog 208 #[va, vb] w fun e w' => ∃ v, e = .returned v ∧ WhO w' w.heap.size v (a + b) ∧ Below w.heap.size w w' := by
  obtain ⟨A, c, rfl, hA⟩ := ha
  obtain ⟨B, d, rfl, hB⟩ := hb
  have hsg := sg_sub b a (Ne.symm hs) (Nat.le_of_lt hl)
  rw [Int.add_comm b a] at hsg
  have HAB := Lib.hid (And.intro hA hB)
  generalize hsa : decide (a < 0) = sa at *
  generalize hsb : decide (b < 0) = sb at *
  have HSG := Lib.hid hsg
  have ee : (sa == sb) = false := by simp [hs]
  have HL : Hid (val (wds a.natAbs) ≤ val (wds b.natAbs)) := by show _ ≤ _; rw [val_wds, val_wds]; omega
  have hcm2 : (cmpN a.natAbs b.natAbs < 0) = True := by simp only [eq_iff_iff, iff_true]; rw [cmpN_lt hl]; omega
  clear hsg hs hsa hsb hl
  obtain ⟨W0, hW0⟩ : ∃ x, ((w.alloc (.cells #[.bool sa, .slice A (wl a.natAbs) c] 233)).alloc (.cells #[.bool sb, .slice B (wl b.natAbs) d] 233)).alloc (.cells #[.bool false, .slice none 0 0] 233) = x := ⟨_, rfl⟩
  have hb0 : Below w.heap.size w W0 := by rw [← hW0]; exact (((Below.refl _ _).alloc (Nat.le_refl _) _).alloc (by simp) _).alloc (by simp; omega) _
  have hs0 : W0.heap.size = w.heap.size + 3 := by rw [← hW0]; simp
  have k1 : W0.heap[w.heap.size]? = some (.cells #[.bool sa, .slice A (wl a.natAbs) c] 233) := by rw [← hW0]; exact alloc_keep (alloc_keep (heap_alloc_new w _) _) _
  have k2 : W0.heap[w.heap.size + 1]? = some (.cells #[.bool sb, .slice B (wl b.natAbs) d] 233) := by rw [← hW0]; exact alloc_keep (heap_new _ (by simp)) _
  have k3 : W0.heap[w.heap.size + 1 + 1]? = some (.cells #[.bool false, .slice none 0 0] 233) := by rw [← hW0]; exact heap_new _ (by simp)
  have HK := Lib.hid (And.intro hb0 (And.intro hs0 (And.intro k1 (And.intro k2 k3))))
  have R1 := hA.below hb0
  have R2 := hB.below hb0
  obtain ⟨z0, z1, z2, z3⟩ := boxes2 k1 k2 (Below.refl _ _)
  clear hb0 hs0 k1 k2 k3 hA hB
  obtain ⟨f0, f1, f2, f3⟩ : W0.frozen? ⟨w.heap.size, 0, none⟩ = false ∧ W0.frozen? ⟨w.heap.size, 1, none⟩ = false ∧ W0.frozen? ⟨w.heap.size + 1, 0, none⟩ = false ∧ W0.frozen? ⟨w.heap.size + 1, 1, none⟩ = false := by
    obtain ⟨_, _, x, y⟩ := cell2 HK.out.2.2.1
    obtain ⟨_, _, x', y'⟩ := cell2 HK.out.2.2.2.1
    exact ⟨x, y, x', y'⟩
  go_enter Tryz.func208, Tryz.ntmps208
  go_wp2_with fail
  refine (ref01_Compare A B _ c _ d _ _ _ R1 R2).mono ?_
  rintro e W1 ⟨rfl, nd, rfl⟩
  rw [val_wds, val_wds]
  go_upto_region 5 with fail
  have HW0 := Lib.hid hW0
  clear hW0
  change Code.wp _ _ _ _ (((((W0.drewN nd).setCell ⟨w.heap.size, 0, none⟩ (.bool sb)).setCell ⟨w.heap.size, 1, none⟩ (.slice B (wl b.natAbs) d)).setCell ⟨w.heap.size + 1, 0, none⟩ (.bool sa)).setCell ⟨w.heap.size + 1, 1, none⟩ (.slice A (wl a.natAbs) c))
  have k1 : (((((W0.drewN nd).setCell ⟨w.heap.size, 0, none⟩ (.bool sb)).setCell ⟨w.heap.size, 1, none⟩ (.slice B (wl b.natAbs) d)).setCell ⟨w.heap.size + 1, 0, none⟩ (.bool sa)).setCell ⟨w.heap.size + 1, 1, none⟩ (.slice A (wl a.natAbs) c)).heap[w.heap.size]? = some (.cells #[.bool sb, .slice B (wl b.natAbs) d] 233) := set2_keep (set2_own (w := W0.drewN nd) HK.out.2.2.1) (by omega)
  have k2 : (((((W0.drewN nd).setCell ⟨w.heap.size, 0, none⟩ (.bool sb)).setCell ⟨w.heap.size, 1, none⟩ (.slice B (wl b.natAbs) d)).setCell ⟨w.heap.size + 1, 0, none⟩ (.bool sa)).setCell ⟨w.heap.size + 1, 1, none⟩ (.slice A (wl a.natAbs) c)).heap[w.heap.size + 1]? = some (.cells #[.bool sa, .slice A (wl a.natAbs) c] 233) := set2_own (set2_keep (w := W0.drewN nd) HK.out.2.2.2.1 (by omega))
  have k3 : (((((W0.drewN nd).setCell ⟨w.heap.size, 0, none⟩ (.bool sb)).setCell ⟨w.heap.size, 1, none⟩ (.slice B (wl b.natAbs) d)).setCell ⟨w.heap.size + 1, 0, none⟩ (.bool sa)).setCell ⟨w.heap.size + 1, 1, none⟩ (.slice A (wl a.natAbs) c)).heap[w.heap.size + 1 + 1]? = some (.cells #[.bool false, .slice none 0 0] 233) := set2_keep (set2_keep (w := W0.drewN nd) HK.out.2.2.2.2 (by omega)) (by omega)
  have hb1 : Below w.heap.size w (((((W0.drewN nd).setCell ⟨w.heap.size, 0, none⟩ (.bool sb)).setCell ⟨w.heap.size, 1, none⟩ (.slice B (wl b.natAbs) d)).setCell ⟨w.heap.size + 1, 0, none⟩ (.bool sa)).setCell ⟨w.heap.size + 1, 1, none⟩ (.slice A (wl a.natAbs) c)) := ((((below_drewN HK.out.1 nd).setCell (Nat.le_refl _) _).setCell (Nat.le_refl _) _).setCell (by show w.heap.size ≤ w.heap.size + 1; omega) _).setCell (by show w.heap.size ≤ w.heap.size + 1; omega) _
  have hs1 : (((((W0.drewN nd).setCell ⟨w.heap.size, 0, none⟩ (.bool sb)).setCell ⟨w.heap.size, 1, none⟩ (.slice B (wl b.natAbs) d)).setCell ⟨w.heap.size + 1, 0, none⟩ (.bool sa)).setCell ⟨w.heap.size + 1, 1, none⟩ (.slice A (wl a.natAbs) c)).heap.size = w.heap.size + 3 := by simp only [World.size_setCell]; exact HK.out.2.1
  generalize hWx : (((((W0.drewN nd).setCell ⟨w.heap.size, 0, none⟩ (.bool sb)).setCell ⟨w.heap.size, 1, none⟩ (.slice B (wl b.natAbs) d)).setCell ⟨w.heap.size + 1, 0, none⟩ (.bool sa)).setCell ⟨w.heap.size + 1, 1, none⟩ (.slice A (wl a.natAbs) c)) = W1 at *
  have HK1 := Lib.hid (And.intro hb1 (And.intro hs1 (And.intro k1 (And.intro k2 k3))))
  clear R1 R2 z0 z1 z2 z3 f0 f1 f2 f3 HK HW0 hWx
  have HK := HK1
  have R1 := HAB.out.1.below hb1
  have R2 := HAB.out.2.below hb1
  obtain ⟨z0, z1, z2, z3⟩ := boxes2 k1 k2 (Below.refl _ _)
  clear k1 k2 k3 hb1 hs1 HK1
  go_wp2_with fail
  have hd0 : Below W1.heap.size W1 W1.drew := below_drewN (Below.refl _ _) 1
  go_region_held3 (fun w' => w'.cell? ⟨w.heap.size, 0, none⟩ = some (.bool sb) ∧ w'.cell? ⟨w.heap.size, 1, none⟩ = some (.slice B (wl b.natAbs) d) ∧ w'.cell? ⟨w.heap.size + 1, 0, none⟩ = some (.bool sa) ∧ w'.cell? ⟨w.heap.size + 1, 1, none⟩ = some (.slice A (wl a.natAbs) c))
    (first
      | exact boxes2 HK.out.2.2.1 HK.out.2.2.2.1 hd0
      | exact boxes2 HK.out.2.2.1 HK.out.2.2.2.1 hB2
      | exact boxes2 HK.out.2.2.1 HK.out.2.2.2.1 hB3
      | (obtain ⟨u0, u1, u2, u3⟩ := boxes2 HK.out.2.2.1 HK.out.2.2.2.1 hB3; go_simp; done))
    (first
      | (go_at_call 282; (with_reducible refine (ref01_Less B A _ d _ c _ _ _ (R2.below hd0) (R1.below hd0) (by omega) HL.out).mono ?_); rintro e w2 ⟨v2, rfl, hO2, hB2'⟩; have hB2 := bel_step hd0 hB2'; have hB2s := hB2.size; obtain ⟨A2, c2, rfl, hR2⟩ := hO2.wl0)
      | (go_at_call 280; (with_reducible refine (ref02_made sb A2 _ c2 _ _ hR2).mono ?_); rintro e w3 ⟨v3, rfl, hW3, hB3'⟩; have hB3 := bel_step hB2 hB3'; (simp only [val_wds] at hW3); rw [HSG.out] at hW3; obtain ⟨A3, c3, rfl⟩ := hW3.agg; obtain ⟨q0, q1, q2, q3⟩ := cell2 (blk_below hB3 HK.out.2.2.2.2); have hs3 := hB3.size))
  have HF := Lib.hid (And.intro hW3 hB3)
  clear hW3 hB3 hB2 hB2' hB3' hO2 hR2
  go_wp2_with fail
  exact bodyPost_ret (v := .agg #[.bool (decide (a + b < 0)), .slice A3 (wl (a + b).natAbs) c3]) (by simp [results, Tryz.results208, go_sem, q0, q1]) rfl
    ⟨_, rfl, (HF.out.1.set2 (by have := HK.out.2.1; have := hB2s; omega)).mono (by have := HK.out.2.1; have := hB2s; omega), ((HK.out.1.trans (HF.out.2.mono HK.out.1.size)).setCell (by show w.heap.size ≤ w.heap.size + 1 + 1; omega) _).setCell (by show w.heap.size ≤ w.heap.size + 1 + 1; omega) _⟩

theorem ref02_Plus {va vb : Value} {a b : Int} (w : World) (ha : WhR w va a) (hb : WhR w vb b) (la : wl a.natAbs ≤ 50000) (lb : wl b.natAbs ≤ 50000) :
    Calls Tryz.prog 208 #[va, vb] w fun e w' => ∃ v, e = .returned v ∧ WhO w' w.heap.size v (a + b) ∧ Below w.heap.size w w' := by
  by_cases hs : decide (a < 0) = decide (b < 0)
  · exact ref02_Plus_same w ha hb la lb hs
  · rcases Nat.lt_or_ge a.natAbs b.natAbs with hl | hl
    · exact ref02_Plus_lt w ha hb la lb hs hl
    · exact ref02_Plus_ge w ha hb la lb hs hl
end Go.Proofs.YtcbkijeonilcjaaGreat

/- The reference's powers of rotors: whole numbers over a power (plain). -/
namespace Go.Proofs.YtcbkijeonilcjaaGreat

/-- (f + i n) to the power k -/
def zpw (f n : Int) : Nat → Int × Int
  | 0 => (1, 0)
  | k + 1 => ((zpw f n k).1 * f - (zpw f n k).2 * n, (zpw f n k).1 * n + (zpw f n k).2 * f)

theorem mkRat_mul_den (N : Int) {D : Nat} (hD : 0 < D) : mkRat N D * (D : Rat) = (N : Rat) := by
  rw [Rat.mkRat_eq_div]
  have : (D : Rat) ≠ 0 := by
    intro h; have := Rat.natCast_eq_zero_iff.1 h; omega
  exact Rat.div_mul_cancel this
theorem eq_mkRat {r : Rat} {N : Int} {D : Nat} (hD : 0 < D) (h : r * (D : Rat) = (N : Rat)) : r = mkRat N D := by
  rw [Rat.mkRat_eq_div, ← h]
  have : (D : Rat) ≠ 0 := by
    intro h; have := Rat.natCast_eq_zero_iff.1 h; omega
  exact (Rat.mul_div_cancel this).symm
theorem mkRat_frac (N : Int) (D : Nat) : mkRat N D = frac (decide (N < 0)) N.natAbs D := by
  unfold frac; congr 1; unfold sg
  by_cases h : N < 0
  · rw [decide_eq_true h, if_pos rfl]; omega
  · rw [decide_eq_false h, if_neg (by simp)]; omega
theorem zpw_cpw {f n : Int} (h : 0 < rotD f n) (t : Nat) :
    (cpw (rotZ f n) t).1 * ((rotD f n ^ t : Nat) : Rat) = ((zpw f n (2 * t)).1 : Rat) ∧ (cpw (rotZ f n) t).2 * ((rotD f n ^ t : Nat) : Rat) = ((zpw f n (2 * t)).2 : Rat) := by
  induction t with
  | zero => simp [cpw, zpw]
  | succ t ih =>
    obtain ⟨i1, i2⟩ := ih
    have e1 : rotRe f n * (rotD f n : Rat) = ((f * f - n * n : Int) : Rat) := mkRat_mul_den _ h
    have e2 : rotIm f n * (rotD f n : Rat) = ((2 * f * n : Int) : Rat) := mkRat_mul_den _ h
    have e3 : 2 * (t + 1) = 2 * t + 1 + 1 := by omega
    rw [e3]
    simp only [zpw]
    rw [Nat.pow_succ, Rat.natCast_mul]
    rw [show cpw (rotZ f n) (t + 1) = cmul (cpw (rotZ f n) t) (rotRe f n, rotIm f n) from rfl]
    generalize cpw (rotZ f n) t = p at *
    obtain ⟨a, b⟩ := p
    simp only [cmul] at *
    generalize (zpw f n (2 * t)).1 = A at *
    generalize (zpw f n (2 * t)).2 = B at *
    generalize ((rotD f n ^ t : Nat) : Rat) = P at *
    generalize (rotD f n : Rat) = D at *
    generalize rotRe f n = zr at *
    generalize rotIm f n = zi at *
    simp only [Rat.intCast_sub, Rat.intCast_mul, Rat.intCast_add] at *
    generalize (A : Rat) = qa at *
    generalize (B : Rat) = qb at *
    generalize (f : Rat) = qf at *
    generalize (n : Rat) = qn at *
    have h2 : ((2 : Int) : Rat) = 2 := rfl
    rw [h2] at e2
    subst i1 i2
    constructor
    · have e4 : (a * zr - b * zi) * (P * D) = a * P * (zr * D) - b * P * (zi * D) := by grind
      rw [e4, e1, e2]; grind
    · have e4 : (a * zi + b * zr) * (P * D) = a * P * (zi * D) + b * P * (zr * D) := by grind
      rw [e4, e1, e2]; grind
theorem zpw_part {f n : Int} (h : 0 < rotD f n) (t : Nat) :
    frac (decide ((zpw f n (2 * t)).1 < 0)) (zpw f n (2 * t)).1.natAbs (rotD f n ^ t) = (cpw (rotZ f n) t).1 ∧ frac (decide ((zpw f n (2 * t)).2 < 0)) (zpw f n (2 * t)).2.natAbs (rotD f n ^ t) = (cpw (rotZ f n) t).2 := by
  obtain ⟨h1, h2⟩ := zpw_cpw h t
  have hp : 0 < rotD f n ^ t := Nat.pow_pos h
  exact ⟨by rw [← mkRat_frac]; exact (eq_mkRat hp h1).symm, by rw [← mkRat_frac]; exact (eq_mkRat hp h2).symm⟩
theorem zpw_le {f n : Int} (hf : f.natAbs ≤ 1000) (hn : n.natAbs ≤ 1000) (k : Nat) : (zpw f n k).1.natAbs + (zpw f n k).2.natAbs ≤ 2000 ^ k := by
  induction k with
  | zero => simp [zpw]
  | succ k ih =>
    simp only [zpw]
    generalize (zpw f n k).1 = A at *
    generalize (zpw f n k).2 = B at *
    rw [Nat.pow_succ]
    have h1 : (A * f - B * n).natAbs ≤ A.natAbs * 1000 + B.natAbs * 1000 := by
      have a1 : (A * f).natAbs ≤ A.natAbs * 1000 := by rw [Int.natAbs_mul]; exact Nat.mul_le_mul_left _ hf
      have a2 : (B * n).natAbs ≤ B.natAbs * 1000 := by rw [Int.natAbs_mul]; exact Nat.mul_le_mul_left _ hn
      omega
    have h2 : (A * n + B * f).natAbs ≤ A.natAbs * 1000 + B.natAbs * 1000 := by
      have a1 : (A * n).natAbs ≤ A.natAbs * 1000 := by rw [Int.natAbs_mul]; exact Nat.mul_le_mul_left _ hn
      have a2 : (B * f).natAbs ≤ B.natAbs * 1000 := by rw [Int.natAbs_mul]; exact Nat.mul_le_mul_left _ hf
      omega
    omega
theorem zpw_wl {f n : Int} (hf : f.natAbs ≤ 1000) (hn : n.natAbs ≤ 1000) {k : Nat} (hk : k ≤ 2048) : wl (zpw f n k).1.natAbs ≤ 705 ∧ wl (zpw f n k).2.natAbs ≤ 705 := by
  have h := zpw_le hf hn k
  have h2 := wl_pow 2000 k 705 11 (by omega) (by omega)
  exact ⟨Nat.le_trans (wl_mono (by omega)) h2, Nat.le_trans (wl_mono (by omega)) h2⟩
theorem rotD_wl {f n : Int} (h : rotD f n ≤ 2000000) {k : Nat} (hk : k ≤ 1024) : wl (rotD f n ^ k) ≤ 705 := by
  have h2 := wl_pow (rotD f n) k 705 21 (by omega) (by omega)
  exact Nat.le_trans (wl_mono (by omega)) h2
end Go.Proofs.YtcbkijeonilcjaaGreat
