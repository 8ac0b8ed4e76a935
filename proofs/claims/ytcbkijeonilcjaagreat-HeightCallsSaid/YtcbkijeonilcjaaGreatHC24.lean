/- The reference of layer 2: differences, numbers of 64 bits; the reference of layer 5: parts. -/
import Derived.Test.YtcbkijeonilcjaaGreatHC17
import Derived.Test.YtcbkijeonilcjaaGreatHC19
import Derived.Test.YtcbkijeonilcjaaGreatHC20
import Derived.Test.YtcbkijeonilcjaaGreatHC23
import Derived.Deep.CutRange
import Derived.Laws.StructEq
import Derived.Deep.LoopGhost
namespace Go.Proofs.YtcbkijeonilcjaaGreat
open Go.RowKit

set_option maxHeartbeats 2000000 in
theorem ref02_Less {va vb : Value} {a b : Int} (w : World) (ha : WhR w va a) (hb : WhR w vb b) (la : wl a.natAbs ≤ 50000) (lb : wl b.natAbs ≤ 50000) :
    Calls Tryz.prog 210 #[va, vb] w fun e w' => ∃ v, e = .returned v ∧ WhO w' w.heap.size v (a - b) ∧ Below w.heap.size w w' := by
  have hab := And.intro ha hb
  obtain ⟨A, c, rfl, hA⟩ := ha
  obtain ⟨B, d, rfl, hB⟩ := hb
  have hsub : a + -b = a - b := by omega
  have HSUB := Lib.hid hsub
  generalize hsa : decide (a < 0) = sa at *
  generalize hsb : decide (b < 0) = sb at *
  obtain ⟨W0, hW0⟩ : ∃ x, ((w.alloc (.cells #[.bool sa, .slice A (wl a.natAbs) c] 233)).alloc (.cells #[.bool sb, .slice B (wl b.natAbs) d] 233)).alloc (.cells #[.bool false, .slice none 0 0] 233) = x := ⟨_, rfl⟩
  have hb0 : Below w.heap.size w W0 := by rw [← hW0]; exact (((Below.refl _ _).alloc (Nat.le_refl _) _).alloc (by simp) _).alloc (by simp; omega) _
  have hs0 : W0.heap.size = w.heap.size + 3 := by rw [← hW0]; simp
  have k1 : W0.heap[w.heap.size]? = some (.cells #[.bool sa, .slice A (wl a.natAbs) c] 233) := by rw [← hW0]; exact alloc_keep (alloc_keep (heap_alloc_new w _) _) _
  have k2 : W0.heap[w.heap.size + 1]? = some (.cells #[.bool sb, .slice B (wl b.natAbs) d] 233) := by rw [← hW0]; exact alloc_keep (heap_new _ (by simp)) _
  have k3 : W0.heap[w.heap.size + 1 + 1]? = some (.cells #[.bool false, .slice none 0 0] 233) := by rw [← hW0]; exact heap_new _ (by simp)
  have HK := Lib.hid (And.intro hb0 (And.intro hs0 (And.intro k1 (And.intro k2 k3))))
  have R1 := hab.1.below hb0
  have R2 := hab.2.below hb0
  obtain ⟨z0, z1, z2, z3⟩ := boxes2 k1 k2 (Below.refl _ _)
  clear hb0 hs0 k1 k2 k3 hA hB hab hsa hsb hsub
  go_enter Tryz.func210, Tryz.ntmps210
  go_wp2_with fail
  have HW0 := Lib.hid hW0
  clear hW0
  have hd0 : Below W0.heap.size W0 W0.drew := below_drewN (Below.refl _ _) 1
  go_region_held3 (fun w' => w'.cell? ⟨w.heap.size, 0, none⟩ = some (.bool sa) ∧ w'.cell? ⟨w.heap.size, 1, none⟩ = some (.slice A (wl a.natAbs) c) ∧ w'.cell? ⟨w.heap.size + 1, 0, none⟩ = some (.bool sb) ∧ w'.cell? ⟨w.heap.size + 1, 1, none⟩ = some (.slice B (wl b.natAbs) d))
    (first
      | exact boxes2 HK.out.2.2.1 HK.out.2.2.2.1 hd0
      | exact boxes2 HK.out.2.2.1 HK.out.2.2.2.1 hB2
      | exact boxes2 HK.out.2.2.1 HK.out.2.2.2.1 hB3
      | (obtain ⟨u0, u1, u2, u3⟩ := boxes2 HK.out.2.2.1 HK.out.2.2.2.1 hB3; go_simp; done))
    (first
      | (go_at_call 207; (with_reducible refine (ref02_Opposite _ (R2.below hd0)).mono ?_); rintro e w2 ⟨v2, rfl, hW2, hB2'⟩; have hB2 := bel_step hd0 hB2')
      | (go_at_call 208; (with_reducible refine (ref02_Plus _ (R1.below hB2) hW2.rd (by omega) (by rw [Int.natAbs_neg]; omega)).mono ?_); rintro e w3 ⟨v3, rfl, hW3, hB3'⟩; have hB3 := bel_step hB2 hB3'; have hB2s := hB2.size; rw [HSUB.out] at hW3; obtain ⟨A3, c3, rfl⟩ := hW3.agg; obtain ⟨q0, q1, q2, q3⟩ := cell2 (blk_below hB3 HK.out.2.2.2.2); have hs3 := hB3.size))
  have HF := Lib.hid (And.intro hW3 hB3)
  clear hW3 hB3 hB2 hB2' hB3' hW2
  go_wp2_with fail
  exact bodyPost_ret (v := .agg #[.bool (decide (a - b < 0)), .slice A3 (wl (a - b).natAbs) c3]) (by simp [results, Tryz.results210, go_sem, q0, q1]) rfl
    ⟨_, rfl, (HF.out.1.set2 (by have := HK.out.2.1; have := hB2s; omega)).mono (by have := HK.out.2.1; have := hB2s; omega), ((HK.out.1.trans (HF.out.2.mono HK.out.1.size)).setCell (by show w.heap.size ≤ w.heap.size + 1 + 1; omega) _).setCell (by show w.heap.size ≤ w.heap.size + 1 + 1; omega) _⟩

set_option maxHeartbeats 2000000 in
theorem ref02_Of (z : Int) (w : World) (h1 : -4611686018427387904 ≤ z) (h2 : z ≤ 4611686018427387904) :
    Calls Tryz.prog 206 #[.int .i64 z] w fun e w' => ∃ v, e = .returned v ∧ WhO w' w.heap.size v z ∧ Below w.heap.size w w' := by
  by_cases hz : z < 0
  · obtain ⟨k, hk⟩ : ∃ k : Nat, z = -(k : Int) := ⟨z.natAbs, by omega⟩
    have HZ : Hid (sg true k = z) := by show sg true k = z; unfold sg; rw [if_pos rfl]; omega
    have e1 : IntKind.u64.wrap (IntKind.u64.wrap z) = 18446744073709551616 - (k : Int) := by rw [wrap_u64', wrap_u64']; omega
    have e2 : IntKind.u64.wrap z = 18446744073709551616 - (k : Int) := by rw [wrap_u64']; omega
    have e3 : IntKind.u64.wrap (-(18446744073709551616 - (k : Int))) = (k : Int) := by rw [wrap_u64']; omega
    have hz2 : (z < 0) = True := by simp only [eq_iff_iff, iff_true]; exact hz
    have hkb : k < 18446744073709551616 := by omega
    have hA : Ar 116 ((w.alloc (.cells #[.bool false, .slice none 0 0] 233)).alloc (.cells #[.int .u32 ((k : Int) % 4294967296), .int .u32 ((k : Int) / 4294967296)] 116)) (w.heap.size + 1) 0 2 2 [k % 4294967296, k / 4294967296] :=
      ⟨_, heap_new _ (by simp), by simp, by omega, ⟨by omega, by unfold maxLen; omega⟩, rfl, lim_two k (by omega), fun j hj => by
        rcases (by omega : j = 0 ∨ j = 1) with rfl | rfl
        · simp [wd]
        · simp [wd]⟩
    have hb0 : Below w.heap.size w ((w.alloc (.cells #[.bool false, .slice none 0 0] 233)).alloc (.cells #[.int .u32 ((k : Int) % 4294967296), .int .u32 ((k : Int) / 4294967296)] 116)) := ((Below.refl _ _).alloc (Nat.le_refl _) _).alloc (by simp) _
    have kr : ((w.alloc (.cells #[.bool false, .slice none 0 0] 233)).alloc (.cells #[.int .u32 ((k : Int) % 4294967296), .int .u32 ((k : Int) / 4294967296)] 116)).heap[w.heap.size]? = some (.cells #[.bool false, .slice none 0 0] 233) := alloc_keep (heap_alloc_new w _) _
    have HK := Lib.hid (And.intro hb0 (And.intro hA.rd kr))
    have hmodk : (k : Int) / 4294967296 % 4294967296 = (k : Int) / 4294967296 := by omega
    clear hA hb0 kr
    have HK2 := Lib.hid hk
    clear hk
    go_enter Tryz.func206, Tryz.ntmps206
    go_wp2_with fail
    refine (ref02_made true _ 2 2 _ _ HK.out.2.1).mono ?_
    rintro e w3 ⟨v3, rfl, hW3, hB3⟩
    rw [val_two k, HZ.out] at hW3
    obtain ⟨A3, c3, rfl⟩ := hW3.agg
    obtain ⟨q0, q1, q2, q3⟩ := cell2 (blk_below hB3 HK.out.2.2)
    have hs3 := hB3.size
    simp at hs3
    have HF := Lib.hid (And.intro hW3 hB3)
    clear hW3 hB3
    go_wp2_with fail
    exact bodyPost_ret (v := .agg #[.bool (decide (z < 0)), .slice A3 (wl z.natAbs) c3]) (by first | (simp [results, Tryz.results206, go_sem, q0, q1]; done) | (simp [results, Tryz.results206, go_sem, q0, q1]; omega)) rfl
      ⟨_, rfl, (HF.out.1.set2 (by simp; omega)).mono (by simp; omega), ((HK.out.1.trans (HF.out.2.mono HK.out.1.size)).setCell (Nat.le_refl _) _).setCell (Nat.le_refl _) _⟩
  · obtain ⟨k, hk⟩ : ∃ k : Nat, z = (k : Int) := ⟨z.toNat, by omega⟩
    have HZ : Hid (sg false k = z) := by show sg false k = z; unfold sg; rw [if_neg (by simp)]; omega
    have hkb : k < 18446744073709551616 := by omega
    have hA : Ar 116 ((w.alloc (.cells #[.bool false, .slice none 0 0] 233)).alloc (.cells #[.int .u32 ((k : Int) % 4294967296), .int .u32 ((k : Int) / 4294967296)] 116)) (w.heap.size + 1) 0 2 2 [k % 4294967296, k / 4294967296] :=
      ⟨_, heap_new _ (by simp), by simp, by omega, ⟨by omega, by unfold maxLen; omega⟩, rfl, lim_two k (by omega), fun j hj => by
        rcases (by omega : j = 0 ∨ j = 1) with rfl | rfl
        · simp [wd]
        · simp [wd]⟩
    have hb0 : Below w.heap.size w ((w.alloc (.cells #[.bool false, .slice none 0 0] 233)).alloc (.cells #[.int .u32 ((k : Int) % 4294967296), .int .u32 ((k : Int) / 4294967296)] 116)) := ((Below.refl _ _).alloc (Nat.le_refl _) _).alloc (by simp) _
    have kr : ((w.alloc (.cells #[.bool false, .slice none 0 0] 233)).alloc (.cells #[.int .u32 ((k : Int) % 4294967296), .int .u32 ((k : Int) / 4294967296)] 116)).heap[w.heap.size]? = some (.cells #[.bool false, .slice none 0 0] 233) := alloc_keep (heap_alloc_new w _) _
    have HK := Lib.hid (And.intro hb0 (And.intro hA.rd kr))
    have hmodk : (k : Int) / 4294967296 % 4294967296 = (k : Int) / 4294967296 := by omega
    clear hA hb0 kr
    have e1 : IntKind.u64.wrap z = (k : Int) := by rw [wrap_u64']; omega
    have hz2 : (z < 0) = False := by simp only [eq_iff_iff, iff_false]; exact hz
    have HK2 := Lib.hid hk
    have hz0 : 0 ≤ z := by omega
    have HZK := Lib.hid hk
    clear hk hz
    go_enter Tryz.func206, Tryz.ntmps206
    go_wp2_with fail
    refine (ref02_made false _ 2 2 _ _ HK.out.2.1).mono ?_
    rintro e w3 ⟨v3, rfl, hW3, hB3⟩
    rw [val_two k, HZ.out] at hW3
    obtain ⟨A3, c3, rfl⟩ := hW3.agg
    obtain ⟨q0, q1, q2, q3⟩ := cell2 (blk_below hB3 HK.out.2.2)
    have hs3 := hB3.size
    simp at hs3
    have HF := Lib.hid (And.intro hW3 hB3)
    clear hW3 hB3
    go_wp2_with fail
    exact bodyPost_ret (v := .agg #[.bool (decide (z < 0)), .slice A3 (wl z.natAbs) c3]) (by first | (simp [results, Tryz.results206, go_sem, q0, q1]; done) | (simp [results, Tryz.results206, go_sem, q0, q1]; omega)) rfl
      ⟨_, rfl, (HF.out.1.set2 (by simp; omega)).mono (by simp; omega), ((HK.out.1.trans (HF.out.2.mono HK.out.1.size)).setCell (Nat.le_refl _) _).setCell (Nat.le_refl _) _⟩

set_option maxHeartbeats 2000000 in
/-- a fraction in its one form, made -/
theorem ref05_part {va : Value} {z : Int} {A' : Option Addr} {c' y : Nat} (w : World) (ha : WhR w va z) (hb : Rd w A' (wl y) c' (wds y)) (la : wl z.natAbs ≤ 70000) (lb : wl y ≤ 70000) (hy : 0 < y) :
    Calls Tryz.prog 211 #[va, .agg #[.bool false, .slice A' (wl y) c']] w fun e w' => ∃ v, e = .returned v ∧ RtO 116 w' w.heap.size w'.heap.size v (frac (decide (z < 0)) z.natAbs y) ∧ Below w.heap.size w w' := by
  obtain ⟨A, c, rfl, hA⟩ := ha
  have hneg := frac_neg (decide (z < 0)) z.natAbs hy
  have hnum := frac_num (decide (z < 0)) z.natAbs hy
  have hden := frac_den (decide (z < 0)) z.natAbs hy
  have hgp : 0 < Nat.gcd z.natAbs y := Nat.gcd_pos_of_pos_right _ hy
  have hnz : (decide (z < 0) && decide (0 < z.natAbs / Nat.gcd z.natAbs y)) = decide (z < 0) := by
    by_cases h1 : z < 0
    · have : 0 < z.natAbs / Nat.gcd z.natAbs y := Nat.div_pos (Nat.le_of_dvd (by omega) (Nat.gcd_dvd_left _ _)) hgp
      simp [h1, this]
    · simp [h1]
  rw [hnz] at hneg
  have HF := Lib.hid (And.intro hneg (And.intro hnum hden))
  have hgl : wl (Nat.gcd z.natAbs y) ≤ 70000 := Nat.le_trans (wl_mono (Nat.le_of_dvd hy (Nat.gcd_dvd_right _ y))) lb
  clear hneg hnum hden hnz
  generalize hsa : decide (z < 0) = sa at *
  obtain ⟨W0, hW0⟩ : ∃ x, ((w.alloc (.cells #[.bool sa, .slice A (wl z.natAbs) c] 233)).alloc (.cells #[.bool false, .slice A' (wl y) c'] 233)).alloc (.cells #[.bool false, .slice none 0 0, .slice none 0 0] 24) = x := ⟨_, rfl⟩
  have hb0 : Below w.heap.size w W0 := by rw [← hW0]; exact (((Below.refl _ _).alloc (Nat.le_refl _) _).alloc (by simp) _).alloc (by simp; omega) _
  have hs0 : W0.heap.size = w.heap.size + 3 := by rw [← hW0]; simp
  have k1 : W0.heap[w.heap.size]? = some (.cells #[.bool sa, .slice A (wl z.natAbs) c] 233) := by rw [← hW0]; exact alloc_keep (alloc_keep (heap_alloc_new w _) _) _
  have k2 : W0.heap[w.heap.size + 1]? = some (.cells #[.bool false, .slice A' (wl y) c'] 233) := by rw [← hW0]; exact alloc_keep (heap_new _ (by simp)) _
  have k3 : W0.heap[w.heap.size + 1 + 1]? = some (.cells #[.bool false, .slice none 0 0, .slice none 0 0] 24) := by rw [← hW0]; exact heap_new _ (by simp)
  have HK := Lib.hid (And.intro hb0 (And.intro hs0 (And.intro k1 (And.intro k2 k3))))
  have R1 := hA.below hb0
  have R2 := hb.below hb0
  obtain ⟨z0, z1, z2, z3⟩ := boxes2 k1 k2 (Below.refl _ _)
  have HSA := Lib.hid hsa
  clear hb0 hs0 k1 k2 k3 hA hb hsa
  go_enter Tryz.func211, Tryz.ntmps211
  go_wp2_with fail
  have HW0 := Lib.hid hW0
  clear hW0
  refine (ref01_Common A A' c c' z.natAbs y _ R1 R2 la lb).mono ?_
  rintro e w1 ⟨vg, rfl, hOg, hB1⟩
  obtain ⟨Ag, cg, rfl, hRg⟩ := hOg.wl0
  obtain ⟨x0, x1, x2, x3⟩ := boxes2 HK.out.2.2.1 HK.out.2.2.2.1 hB1
  have HB1 := Lib.hid hB1
  clear hOg hB1
  go_wp2_with fail
  refine (ref01_Over A Ag c cg z.natAbs (Nat.gcd z.natAbs y) _ (R1.below HB1.out) hRg la hgp).mono ?_
  rintro e w2 ⟨vn, vr, rfl, hOn, _, hB2⟩
  obtain ⟨An, cn, hvn, hRn⟩ := hOn.wl0
  subst hvn
  have HB2 := Lib.hid (bel_step HB1.out hB2)
  have hRg2 := hRg.below hB2
  obtain ⟨y0, y1, y2, y3⟩ := boxes2 HK.out.2.2.1 HK.out.2.2.2.1 HB2.out
  have HOn := Lib.hid hOn
  clear hOn hB2 hRg
  go_wp2_with fail
  refine (ref01_Over A' Ag c' cg y (Nat.gcd z.natAbs y) _ (R2.below HB2.out) hRg2 lb hgp).mono ?_
  rintro e w3 ⟨vd, vr2, rfl, hOd, _, hB3⟩
  obtain ⟨Ad, cd, hvd, hRd⟩ := hOd.wl0
  subst hvd
  have HB3 := Lib.hid (bel_step HB2.out hB3)
  obtain ⟨p0, p1, p2, p3⟩ := boxes2 HK.out.2.2.1 HK.out.2.2.2.1 HB3.out
  obtain ⟨q0, q1, q2, q3, q4, q5⟩ := cell3 (blk_below HB3.out HK.out.2.2.2.2)
  have HOd := Lib.hid (And.intro hOd hB3)
  clear hOd hB3
  go_wp2_with fail
  exact bodyPost_ret (v := .agg #[.bool sa, .slice An (wl (z.natAbs / Nat.gcd z.natAbs y)) cn, .slice Ad (wl (y / Nat.gcd z.natAbs y)) cd]) (by simp [results, Tryz.results211, go_sem, q0, q1, q2]) rfl
    ⟨_, rfl, by
      have s1 := HK.out.2.1
      have s2 := HB1.out.size
      have s3 := HOd.out.2.size
      have s4 := HB2.out.size
      refine ⟨_, _, w2.heap.size, by rw [HF.out.1], by omega, by simp; omega, ?_, ?_⟩
      · rw [HF.out.2.1]
        exact (((((HOn.out.toR.below HOd.out.2).setc (by show w.heap.size + 1 + 1 < w1.heap.size; omega)).setc (by show w.heap.size + 1 + 1 < w1.heap.size; omega)).setc (by show w.heap.size + 1 + 1 < w1.heap.size; omega)).mono (by omega) (Nat.le_refl _))
      · rw [HF.out.2.2]
        exact (((HOd.out.1.toR.setc (by show w.heap.size + 1 + 1 < w2.heap.size; omega)).setc (by show w.heap.size + 1 + 1 < w2.heap.size; omega)).setc (by show w.heap.size + 1 + 1 < w2.heap.size; omega)).mono (Nat.le_refl _) (by simp),
     (((HK.out.1.trans (HB3.out.mono HK.out.1.size)).setCell (by show w.heap.size ≤ w.heap.size + 1 + 1; omega) _).setCell (by show w.heap.size ≤ w.heap.size + 1 + 1; omega) _).setCell (by show w.heap.size ≤ w.heap.size + 1 + 1; omega) _⟩
end Go.Proofs.YtcbkijeonilcjaaGreat

/- The reference of layer 5: powers of rotors (boxes). -/
namespace Go.Proofs.YtcbkijeonilcjaaGreat
open Go.RowKit

/-- a variable of the call's own that holds a whole number -/
def WBox (w : World) (b lo : Nat) (z : Int) : Prop := TypedAt w b 233 ∧ ∃ A c, (w.cell? ⟨b, 0, none⟩ = some (.bool (decide (z < 0))) ∧ w.cell? ⟨b, 1, none⟩ = some (.slice A (wl z.natAbs) c)) ∧ WhO w lo (.agg #[.bool (decide (z < 0)), .slice A (wl z.natAbs) c]) z
theorem Own.kp {w w' : World} {lo : Nat} {v : Value} {l : List Nat} (h : Own 116 w lo v l) (k : Kp w w') : Own 116 w' lo v l := by
  rcases h with h | ⟨b, o, n, c, rfl, h1, hA⟩
  · exact .inl h
  · refine .inr ⟨b, o, n, c, rfl, h1, hA.of_block ?_⟩
    obtain ⟨cur, hc, _⟩ := hA
    exact k b cur hc
theorem WhO.kp {w w' : World} {lo : Nat} {v : Value} {z : Int} (h : WhO w lo v z) (k : Kp w w') : WhO w' lo v z := by
  obtain ⟨vn, rfl, h⟩ := h
  exact ⟨vn, rfl, h.kp k⟩
theorem cells2_below {w w' : World} {b : Nat} {T : TypeId} {x y : Value} (hB : Below w.heap.size w w') (ht : TypedAt w b T) (h : w.cell? ⟨b, 0, none⟩ = some x ∧ w.cell? ⟨b, 1, none⟩ = some y) :
    w'.cell? ⟨b, 0, none⟩ = some x ∧ w'.cell? ⟨b, 1, none⟩ = some y := by
  have hc := (bcell hB).1
  have hlt := typed_lt ht
  exact ⟨(hc _ _ hlt).trans h.1, (hc _ _ hlt).trans h.2⟩
theorem WBox.below {w w' : World} {b lo : Nat} {z : Int} (h : WBox w b lo z) (hB : Below w.heap.size w w') : WBox w' b lo z := by
  obtain ⟨ht, A, c, hc, hW⟩ := h
  exact ⟨ht.below hB, A, c, cells2_below hB ht hc, hW.below hB⟩
theorem WBox.lt {w : World} {b lo : Nat} {z : Int} (h : WBox w b lo z) : b < w.heap.size := typed_lt h.1
theorem WBox.get {w : World} {b lo : Nat} {z : Int} (h : WBox w b lo z) : ∃ A c, (w.cell? ⟨b, 0, none⟩ = some (.bool (decide (z < 0))) ∧ w.cell? ⟨b, 1, none⟩ = some (.slice A (wl z.natAbs) c)) ∧ WhR w (.agg #[.bool (decide (z < 0)), .slice A (wl z.natAbs) c]) z := by
  obtain ⟨_, A, c, h1, h2⟩ := h
  exact ⟨A, c, h1, h2.rd⟩
theorem WBox.mk {w : World} {b lo : Nat} {z : Int} {A : Option Addr} {c : Nat} (h0 : TypedAt w b 233) (h1 : w.cell? ⟨b, 0, none⟩ = some (.bool (decide (z < 0))) ∧ w.cell? ⟨b, 1, none⟩ = some (.slice A (wl z.natAbs) c)) (h2 : WhO w lo (.agg #[.bool (decide (z < 0)), .slice A (wl z.natAbs) c]) z) : WBox w b lo z := ⟨h0, A, c, h1, h2⟩
theorem kp_set2 {w : World} {b : Nat} (ht : TypedAt w b 233) (x y : Value) : Kp w ((w.setCell ⟨b, 0, none⟩ x).setCell ⟨b, 1, none⟩ y) := by
  have hT : 233 ≠ 116 := by decide
  exact ((Kp.refl w).setc ht hT).setc (ht.setc _ _ _) hT
/-- another number laid into it -/
theorem WBox.put {w : World} {b lo : Nat} {z z' : Int} {A : Option Addr} {c : Nat} (h : WBox w b lo z) (h2 : WhO w lo (.agg #[.bool (decide (z' < 0)), .slice A (wl z'.natAbs) c]) z') :
    WBox ((w.setCell ⟨b, 0, none⟩ (.bool (decide (z' < 0)))).setCell ⟨b, 1, none⟩ (.slice A (wl z'.natAbs) c)) b lo z' := by
  obtain ⟨h0, A0, c0, ⟨q0, q1⟩, _⟩ := h
  refine ⟨(h0.setc _ _ _).setc _ _ _, A, c, ?_, h2.kp (kp_set2 h0 _ _)⟩
  go_simp
theorem WBox.other {w : World} {b b' lo : Nat} {z : Int} {x y : Value} (h : WBox w b lo z) (ht : TypedAt w b' 233) (hne : b ≠ b') : WBox ((w.setCell ⟨b', 0, none⟩ x).setCell ⟨b', 1, none⟩ y) b lo z := by
  obtain ⟨h0, A, c, ⟨q0, q1⟩, h2⟩ := h
  have e : ((w.setCell ⟨b', 0, none⟩ x).setCell ⟨b', 1, none⟩ y).heap[b]? = w.heap[b]? := by
    obtain ⟨cur, hc⟩ := h0
    rw [hc]; exact set2_keep hc hne
  have key : ∀ o, ((w.setCell ⟨b', 0, none⟩ x).setCell ⟨b', 1, none⟩ y).cell? ⟨b, o, none⟩ = w.cell? ⟨b, o, none⟩ := fun o => World.cell?_of_block (a := ⟨b, o, none⟩) e
  exact ⟨(h0.setc _ _ _).setc _ _ _, A, c, ⟨(key 0).trans q0, (key 1).trans q1⟩, h2.kp (kp_set2 ht _ _)⟩
end Go.Proofs.YtcbkijeonilcjaaGreat

/- Lists of constituents, ports: plain, and in memory. -/
namespace Go.Proofs.YtcbkijeonilcjaaGreat
open Go.RowKit

/-- a constituent as it was handed in -/
structure Td where
  nm : ByteArray
  far : Int
  near : Int
  g1 : Bool
  l1 : List Nat
  l1' : List Nat
  g2 : Bool
  l2 : List Nat
  l2' : List Nat
def Td.num (T : Td) : Int := chk2 (chkR T.g1 T.l1 T.l1') (chkR T.g2 T.l2 T.l2')
def Td.err (T : Td) : Int := tideE T.nm T.far T.near T.num
def Td.like (T : Td) (s : ByteArray) (f n : Int) : Bool := decide (T.nm = s) || (decide (T.far = f) && decide (T.near = n))
def thereB (ts : List Td) (s : ByteArray) (f n : Int) : Bool := ts.any (fun T => T.like s f n)
/-- a constituent's fields as they lie in nine cells, its numbers readable -/
def TdV (w : World) (T : Td) (A1 : Option Addr) (n1 c1 : Nat) (A1' : Option Addr) (n1' c1' : Nat) (A2 : Option Addr) (n2 c2 : Nat) (A2' : Option Addr) (n2' c2' : Nat) : Prop :=
  (T.nm.size ≤ maxLen ∧ T.far.natAbs ≤ 2147483648 ∧ T.near.natAbs ≤ 2147483648) ∧ Rd w A1 n1 c1 T.l1 ∧ Rd w A1' n1' c1' T.l1' ∧ Rd w A2 n2 c2 T.l2 ∧ Rd w A2' n2' c2' T.l2'
def TdC (w : World) (b o : Nat) (T : Td) : Prop := ∃ A1 n1 c1 A1' n1' c1' A2 n2 c2 A2' n2' c2',
  (w.cell? ⟨b, o, none⟩ = some (.string T.nm) ∧ w.cell? ⟨b, o + 1, none⟩ = some (.int .i32 T.far) ∧ w.cell? ⟨b, o + 2, none⟩ = some (.int .i32 T.near) ∧ w.cell? ⟨b, o + 3, none⟩ = some (.bool T.g1) ∧ w.cell? ⟨b, o + 4, none⟩ = some (.slice A1 n1 c1) ∧ w.cell? ⟨b, o + 5, none⟩ = some (.slice A1' n1' c1') ∧ w.cell? ⟨b, o + 6, none⟩ = some (.bool T.g2) ∧ w.cell? ⟨b, o + 7, none⟩ = some (.slice A2 n2 c2) ∧ w.cell? ⟨b, o + 8, none⟩ = some (.slice A2' n2' c2')) ∧ TdV w T A1 n1 c1 A1' n1' c1' A2 n2 c2 A2' n2' c2'
/-- a slice of constituents that is read -/
structure TsR (w : World) (A : Option Addr) (n c : Nat) (ts : List Td) : Prop where
  len : ts.length = n
  cap : n ≤ c
  big : n ≤ 35184372087808 ∧ c ≤ maxLen
  cell : 0 < n → ∃ b o, A = some ⟨b, o, none⟩ ∧ ∀ j (h : j < ts.length), TdC w b (o + j * 9) ts[j]
theorem TdC.below {w w1 : World} {b o : Nat} {T : Td} (h : TdC w b o T) (hb : Below w.heap.size w w1) : TdC w1 b o T := by
  obtain ⟨A1, n1, c1, A1', n1', c1', A2, n2, c2, A2', n2', c2', ⟨h0, h1, h2, h3, h4, h5, h6, h7, h8⟩, hb0, r1, r2, r3, r4⟩ := h
  have k : ∀ {a v}, w.cell? a = some v → w1.cell? a = some v := fun {a v} e => by rw [hb.cell (World.block_lt_of_cell? w _ e)]; exact e
  exact ⟨A1, n1, c1, A1', n1', c1', A2, n2, c2, A2', n2', c2', ⟨k h0, k h1, k h2, k h3, k h4, k h5, k h6, k h7, k h8⟩, hb0, r1.below hb, r2.below hb, r3.below hb, r4.below hb⟩
theorem TsR.below {w w1 : World} {A : Option Addr} {n c : Nat} {ts : List Td} (h : TsR w A n c ts) (hb : Below w.heap.size w w1) : TsR w1 A n c ts :=
  ⟨h.len, h.cap, h.big, fun hn => by
    obtain ⟨b, o, e, hc⟩ := h.cell hn
    exact ⟨b, o, e, fun j hj => (hc j hj).below hb⟩⟩
theorem TsR.take {w : World} {A : Option Addr} {n c : Nat} {ts : List Td} (h : TsR w A n c ts) (k : Nat) (hk : k ≤ n) : TsR w A k c (ts.take k) :=
  ⟨by rw [List.length_take, h.len]; omega, by have := h.cap; omega, ⟨by have := h.big; omega, h.big.2⟩, fun hp => by
    obtain ⟨b, o, e, hc⟩ := h.cell (by omega)
    refine ⟨b, o, e, fun j hj => ?_⟩
    rw [List.getElem_take]
    exact hc j (by rw [List.length_take] at hj; omega)⟩
theorem thereB_take {ts : List Td} {s : ByteArray} {f n : Int} {i : Nat} (h : i < ts.length) : thereB (ts.take (i + 1)) s f n = (thereB (ts.take i) s f n || ts[i].like s f n) := by
  unfold thereB
  rw [List.take_add_one, List.getElem?_eq_getElem h, List.any_append]
  simp
theorem thereB_of {ts : List Td} {s : ByteArray} {f n : Int} {i : Nat} (h : i < ts.length) (k : ts[i].like s f n = true) : thereB ts s f n = true := by
  unfold thereB
  rw [List.any_eq_true]
  exact ⟨_, List.getElem_mem h, k⟩

theorem str_eq (a b : ByteArray) : (a.toList == b.toList) = decide (a = b) := by
  by_cases h : a = b
  · subst h; simp
  · rw [decide_eq_false h, beq_eq_false_iff_ne]
    intro k
    rw [ByteArray.toList_eq, ByteArray.toList_eq] at k
    exact h (ByteArray.ext (Array.toList_inj.1 k))
theorem ret_bool {a b : Bool} (h : a = b) : Ending.returned (.bool a) = .returned (.bool b) := by rw [h]
set_option maxRecDepth 100000 in
set_option maxHeartbeats 2000000 in
theorem ref14_there {A : Option Addr} {n c : Nat} {ts : List Td} (s : ByteArray) (f m : Int) (v3 v4 v5 v6 v7 v8 : Value) (w : World) (h : TsR w A n c ts) :
    Calls Tryz.prog 131 #[.slice A n c, .agg #[.string s, .int .i32 f, .int .i32 m, v3, v4, v5, v6, v7, v8]] w fun e w' => e = .returned (.bool (thereB ts s f m)) ∧ Below w.heap.size w w' := by
  obtain ⟨W0, hW0⟩ : ∃ x, w.alloc (.cells #[.string s, .int .i32 f, .int .i32 m, v3, v4, v5, v6, v7, v8] 85) = x := ⟨_, rfl⟩
  have hb0 : Below w.heap.size w W0 := by rw [← hW0]; exact (Below.refl _ _).alloc (Nat.le_refl _) _
  have hk : W0.heap[w.heap.size]? = some (.cells #[.string s, .int .i32 f, .int .i32 m, v3, v4, v5, v6, v7, v8] 85) := by rw [← hW0]; exact heap_alloc_new w _
  obtain ⟨z0, z1, z2, z3, z4, z5, z6, z7, z8⟩ := cell9 hk
  have HA := Lib.hid (And.intro hb0 (And.intro hk (h.below hb0)))
  have hln := h.len
  have hbig := h.big.1
  have HL := Lib.hid hln
  clear hb0 hk h hln
  go_enter Tryz.func131, Tryz.ntmps131
  go_wp2_with fail
  have HW0 := Lib.hid hW0
  clear hW0
  go_loopg [5] n (fun g iv wr => ∃ i : Nat, iv = .int .i64 i ∧ i + g = n ∧ thereB (ts.take i) s f m = false ∧ ∃ k, wr = W0.drewN k)
  case atStart => exact ⟨0, rfl, by omega, by simp [thereB], 0, rfl⟩
  case round =>
    obtain ⟨i, rfl, hi, hth, k, rfl⟩ := hrel
    have HT := Lib.hid hth
    clear hth
    by_cases hin : i < n
    · obtain ⟨b, o, rfl, hc⟩ := HA.out.2.2.cell (by omega)
      have hil : i < ts.length := by rw [HL.out]; exact hin
      obtain ⟨A1, n1, c1, A1', n1', c1', A2, n2, c2, A2', n2', c2', ⟨h0, h1, h2, h3, h4, h5, h6, h7, h8⟩, _⟩ := hc i hil
      have HC := Lib.hid hc
      clear hc
      have HTT := Lib.hid (thereB_take (s := s) (f := f) (n := m) hil)
      have HTO := Lib.hid (fun hh => thereB_of (s := s) (f := f) (n := m) hil hh)
      generalize hT : ts[i] = T at *
      clear hT
      go_upto_region 4 with fail
      by_cases hnm : T.nm = s
      · have e1 : (T.nm.toList == s.toList) = true := (str_eq _ _).trans (decide_eq_true hnm)
        have HN := Lib.hid hnm
        clear hnm
        go_quiet (fail)
        go_wp2_with fail
        go_ret
        refine ⟨ret_bool ?_, ?_⟩
        · exact (HTO.out (by simp [Td.like, HN.out])).symm
        · exact below_drewN (below_drewN HA.out.1 _) _
      · have e1 : (T.nm.toList == s.toList) = false := (str_eq _ _).trans (decide_eq_false hnm)
        have HN := Lib.hid hnm
        clear hnm
        by_cases hf : T.far = f
        · have e3 : (T.far == f) = true := by simp [hf]
          have HF := Lib.hid hf
          clear hf
          by_cases hm : T.near = m
          · have e4 : (T.near == m) = true := by simp [hm]
            have HM := Lib.hid hm
            clear hm
            go_quiet (fail)
            go_wp2_with fail
            go_ret
            refine ⟨ret_bool ?_, ?_⟩
            · exact (HTO.out (by simp [Td.like, HF.out, HM.out])).symm
            · exact below_drewN (below_drewN HA.out.1 _) _
          · have e4 : (T.near == m) = false := by simp [hm]
            have HM := Lib.hid hm
            clear hm
            go_quiet (fail)
            go_wp2_with fail
            go_roundg (n - (i + 1))
            case measure => omega
            case rel => exact ⟨i + 1, by simp, by omega, by rw [HTT.out, HT.out]; simp [Td.like, HN.out, HM.out], _, rfl⟩
        · have e3 : (T.far == f) = false := by simp [hf]
          have HF := Lib.hid hf
          clear hf
          go_quiet (fail)
          go_wp2_with fail
          go_roundg (n - (i + 1))
          case measure => omega
          case rel => exact ⟨i + 1, by simp, by omega, by rw [HTT.out, HT.out]; simp [Td.like, HN.out, HF.out], _, rfl⟩
    · have hin2 : i = n := by omega
      subst hin2
      go_wp2_with fail
      go_ret
      refine ⟨ret_bool ?_, below_drewN HA.out.1 _⟩
      rw [← HT.out, ← HL.out, List.take_length]
end Go.Proofs.YtcbkijeonilcjaaGreat
