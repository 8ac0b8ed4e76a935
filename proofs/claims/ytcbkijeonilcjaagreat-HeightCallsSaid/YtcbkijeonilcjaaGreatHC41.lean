/- The kit of the statements: fractions that are lent. -/
import Derived.Test.YtcbkijeonilcjaaGreatHC40
namespace Go.Proofs.YtcbkijeonilcjaaGreat
open Go.RowKit

/-- words that are lent -/
structure LtW (w : World) (b n c : Nat) (l : List Nat) : Prop where
  rd : Rd w (some ⟨b, 0, none⟩) (n + 3) c (l ++ mkL 3)
  len : l.length = n
theorem LtW.below {w w1 : World} {b n c : Nat} {l : List Nat} (h : LtW w b n c l) (hb : Below w.heap.size w w1) : LtW w1 b n c l := ⟨h.rd.below hb, h.len⟩
theorem LtW.words {w : World} {b n c : Nat} {l : List Nat} (h : LtW w b n c l) : Rd w (some ⟨b, 0, none⟩) n c l := by
  have := h.rd.take n (by omega)
  rw [List.take_append_of_le_length (by have := h.len; omega), List.take_of_length_le (by have := h.len; omega)] at this
  exact this
theorem LtW.cap {w : World} {b n c : Nat} {l : List Nat} (h : LtW w b n c l) : n + 3 ≤ c := h.rd.cap
theorem Rd.apart {w : World} {b o n c : Nat} {l : List Nat} (h : Rd w (some ⟨b, o, none⟩) n c l) {w' : World} (hk : w'.heap[b]? = w.heap[b]?) : Rd w' (some ⟨b, o, none⟩) n c l :=
  ⟨h.len, h.lim, h.cap, h.big, fun hn => by
    obtain ⟨b', o', e, hc⟩ := h.cell hn
    cases e
    exact ⟨b, o, rfl, fun j hj => (World.cell?_of_block hk).trans (hc j hj)⟩⟩
theorem LtW.apart {w w' : World} {b n c : Nat} {l : List Nat} (h : LtW w b n c l) (hk : w'.heap[b]? = w.heap[b]?) : LtW w' b n c l := ⟨h.rd.apart hk, h.len⟩
theorem set3_other {w : World} {p b : Nat} (x y z : Value) (h : b ≠ p) : (set3 w p x y z).heap[b]? = w.heap[b]? := by
  unfold set3
  rw [Below.heap_setCell _ _ _ _ h, Below.heap_setCell _ _ _ _ h, Below.heap_setCell _ _ _ _ h]
set_option maxRecDepth 100000 in
set_option maxHeartbeats 2000000 in
theorem kit_LentRatio (g : Bool) (A A' : Option Addr) (n n' c c' : Nat) (l l' : List Nat) (w : World) (h : Rd w A n c l) (h' : Rd w A' n' c' l') (hn : n ≤ 100000) (hn' : n' ≤ 100000) :
    Calls Tryz.prog 47 #[.agg #[.bool g, .slice A n c, .slice A' n' c']] w fun e w' => ∃ b cc b' cc', e = .returned (.agg #[.bool g, .slice (some ⟨b, 0, none⟩) n cc, .slice (some ⟨b', 0, none⟩) n' cc']) ∧ LtW w' b n cc l ∧ LtW w' b' n' cc' l' ∧ Below w.heap.size w w' := by
  have HL := Lib.hid (And.intro h.len h'.len)
  have HC := Lib.hid (fun w' (hb : Below w.heap.size w w') => kit_LentWords A n c l w' (h.below hb) hn)
  have HC' := Lib.hid (fun w' (hb : Below w.heap.size w w') => kit_LentWords A' n' c' l' w' (h'.below hb) hn')
  clear h h'
  obtain ⟨W0, hW0⟩ : ∃ W, (w.alloc (.cells #[.bool g, .slice A n c, .slice A' n' c'] 24)).alloc (.cells #[.bool false, .slice none 0 0, .slice none 0 0] 24) = W := ⟨_, rfl⟩
  have hb0 : Below w.heap.size w W0 := by rw [← hW0]; exact ((Below.refl _ _).alloc (Nat.le_refl _) _).alloc (by simp) _
  have k0 : W0.heap[w.heap.size]? = some (.cells #[.bool g, .slice A n c, .slice A' n' c'] 24) := by rw [← hW0]; exact alloc_keep (heap_alloc_new w _) _
  have k1 : W0.heap[w.heap.size + 1]? = some (.cells #[.bool false, .slice none 0 0, .slice none 0 0] 24) := by rw [← hW0]; exact heap_new _ (by simp)
  have HA := Lib.hid (And.intro hb0 (And.intro k0 k1))
  have HF := Lib.hid (fun w' (hB : Below W0.heap.size W0 w') => (show w'.cell? ⟨w.heap.size, 0, none⟩ = some (.bool g) ∧ w'.cell? ⟨w.heap.size, 1, none⟩ = some (.slice A n c) ∧ w'.cell? ⟨w.heap.size, 2, none⟩ = some (.slice A' n' c') from ⟨(cell3 (blk_below hB k0)).1, (cell3 (blk_below hB k0)).2.1, (cell3 (blk_below hB k0)).2.2.1⟩))
  clear hb0 k0 k1
  have n0 : (0 : Int) ≤ (n : Int) := by omega
  have n0' : (0 : Int) ≤ (n' : Int) := by omega
  go_enter Tryz.func47, Tryz.ntmps47
  go_upto_region 1 with fail
  have HW0 := Lib.hid hW0
  clear hW0
  have hBs : Below W0.heap.size W0 W0.drew := below_drewN (Below.refl _ _) 1
  go_region_held3 (fun w' => w'.cell? ⟨w.heap.size, 0, none⟩ = some (.bool g) ∧ w'.cell? ⟨w.heap.size, 1, none⟩ = some (.slice A n c) ∧ w'.cell? ⟨w.heap.size, 2, none⟩ = some (.slice A' n' c'))
    (first
      | with_reducible exact HF.out _ hBs
      | with_reducible exact HF.out _ hBc2
      | with_reducible exact HF.out _ hBc3
      | (obtain ⟨u1, u2, u3⟩ := HF.out _ hBc3; go_simp))
    (first
      | (go_at_call 108; (with_reducible refine (HC.out _ (bel_step HA.out.1 hBs)).mono ?_); rintro e w2 ⟨b2, c2, rfl, hg2, hR2, hB2⟩; have hBc2 := bel_step hBs hB2; have hc2 : n ≤ c2 := Nat.le_trans (Nat.le_add_right _ _) hR2.cap; have hi2 : (n : Int) ≤ (c2 : Int) := (by omega))
      | (go_at_call 108; (with_reducible refine (HC'.out _ (bel_step HA.out.1 hBc2)).mono ?_); rintro e w3 ⟨b3, c3, rfl, hg3, hR3, hB3⟩; have hBc3 := bel_step hBc2 hB3; have hc3 : n' ≤ c3 := Nat.le_trans (Nat.le_add_right _ _) hR3.cap; have hi3 : (n' : Int) ≤ (c3 : Int) := (by omega); obtain ⟨s0, s1, s2, s3, s4, s5⟩ := cell3 (blk_below hBc3 HA.out.2.2)))
  have hl0 := heap_lt HA.out.2.2
  have hl3 := hBc2.size
  have hz3 : W0.drew.heap.size = W0.heap.size := rfl
  have hx2 : b2 ≠ w.heap.size + 1 := by omega
  have hx3 : b3 ≠ w.heap.size + 1 := by omega
  have HFin := Lib.hid (And.intro (LtW.mk (hR2.below hB3) HL.out.1) (And.intro (LtW.mk hR3 HL.out.2) (bel_step HA.out.1 hBc3)))
  clear hR2 hR3 hB2 hB3 hBc2 hBs hg2 hg3 hz3 hBc3
  go_wp2_with fail
  exact bodyPost_ret (v := .agg #[.bool g, .slice (some ⟨b2, 0, none⟩) n c2, .slice (some ⟨b3, 0, none⟩) n' c3]) (by simp [results, Tryz.results47, go_sem, *]) rfl
    ⟨_, _, _, _, rfl, HFin.out.1.apart (set3_other _ _ _ hx2), HFin.out.2.1.apart (set3_other _ _ _ hx3), below_set3 HFin.out.2.2 (Nat.le_succ _) _ _ _⟩
end Go.Proofs.YtcbkijeonilcjaaGreat
