/- The kit of the statements: a port is lent. -/
import Derived.Test.YtcbkijeonilcjaaGreatHC44
namespace Go.Proofs.YtcbkijeonilcjaaGreat
open Go.RowKit

theorem LtS.apart {w w1 : World} {b n c p : Nat} {ts : List Td} {s : ByteArray} {x : Bool} (h : LtS w b n c ts) (h0 : w.cell? ⟨p, 0, none⟩ = some (.string s)) (h1 : w.cell? ⟨p, 1, none⟩ = some (.bool x)) (hk : ∀ b, b ≠ p → w1.heap[b]? = w.heap[b]?) : LtS w1 b n c ts := by
  have hb : b ≠ p := by
    rintro rfl
    rcases Nat.eq_zero_or_pos n with hz | hz
    · have := h.tail 0 (by omega) 1 (by omega)
      rw [hz, h1] at this
      cases this
    · obtain ⟨xs, ⟨b1, d1, b1', d1', b2, d2, b2', d2', rfl, _⟩, hc⟩ := h.cell 0 (by have := h.len; omega)
      have := hc 1 (by omega)
      rw [show (0 : Nat) * 9 + 1 = 1 from rfl, h1] at this
      cases this
  have hcell : ∀ o, w1.cell? ⟨b, o, none⟩ = w.cell? ⟨b, o, none⟩ := fun o => World.cell?_of_block (hk b hb)
  refine ⟨h.len, h.cap, fun j hj => ?_, fun j hj r hr => by rw [hcell]; exact h.tail j hj r hr⟩
  obtain ⟨xs, ⟨b1, d1, b1', d1', b2, d2, b2', d2', e, h4⟩, hc⟩ := h.cell j hj
  exact ⟨xs, ⟨b1, d1, b1', d1', b2, d2, b2', d2', e, h4.apart h0 rfl hk⟩, fun r hr => by rw [hcell]; exact hc r hr⟩
/-- a port that is lent -/
def LtP (w : World) (v : Value) (p : Pd) : Prop := ∃ b1 d1 b1' d1' bt dt, v = .agg #[.string p.nm, .bool p.g, .slice (some ⟨b1, 0, none⟩) p.l.length d1, .slice (some ⟨b1', 0, none⟩) p.l'.length d1', .slice (some ⟨bt, 0, none⟩) p.ts.length dt] ∧ LtW w b1 p.l.length d1 p.l ∧ LtW w b1' p.l'.length d1' p.l' ∧ LtS w bt p.ts.length dt p.ts
theorem LtP.below {w w1 : World} {v : Value} {p : Pd} (h : LtP w v p) (hb : Below w.heap.size w w1) : LtP w1 v p := by
  obtain ⟨b1, d1, b1', d1', bt, dt, e, h1, h2, h3⟩ := h
  exact ⟨b1, d1, b1', d1', bt, dt, e, h1.below hb, h2.below hb, h3.below hb⟩
/-- how long a port's lists are -/
def PdS (p : Pd) : Prop := p.l.length ≤ 100000 ∧ p.l'.length ≤ 100000 ∧ p.ts.length ≤ 100000 ∧ ∀ T ∈ p.ts, TdS T
theorem TsR.rng {w : World} {A : Option Addr} {n c : Nat} {ts : List Td} (h : TsR w A n c ts) : ∀ T ∈ ts, T.nm.size ≤ maxLen ∧ T.far.natAbs ≤ 2147483648 ∧ T.near.natAbs ≤ 2147483648 := by
  intro T hT
  obtain ⟨j, hj, rfl⟩ := List.getElem_of_mem hT
  obtain ⟨b, o, e, hc⟩ := h.cell (by have := h.len; omega)
  obtain ⟨A1, n1, c1, A1', n1', c1', A2, n2, c2, A2', n2', c2', _, hb0, _⟩ := hc j hj
  exact hb0
theorem LtP.pdr {w0 w : World} {v v0 : Value} {p : Pd} (h : LtP w v p) (h0 : PdR w0 v0 p) : PdR w v p := by
  obtain ⟨b1, d1, b1', d1', bt, dt, e, h1, h2, h3⟩ := h
  obtain ⟨k0, A, n, c, A', n', c', B, k, d, _, k1, k2, k3⟩ := h0
  exact ⟨k0, _, _, _, _, _, _, _, _, _, e, h1.words, h2.words, h3.tsr k3.rng (by have := k3.len; have := k3.big.1; omega)⟩
theorem set5_other {w : World} {p b : Nat} (x0 x1 x2 x3 x4 : Value) (h : b ≠ p) : (((((w.setCell ⟨p, 0, none⟩ x0).setCell ⟨p, 1, none⟩ x1).setCell ⟨p, 2, none⟩ x2).setCell ⟨p, 3, none⟩ x3).setCell ⟨p, 4, none⟩ x4).heap[b]? = w.heap[b]? := by
  rw [Below.heap_setCell _ _ _ _ h, Below.heap_setCell _ _ _ _ h, Below.heap_setCell _ _ _ _ h, Below.heap_setCell _ _ _ _ h, Below.heap_setCell _ _ _ _ h]
theorem free5 {w : World} {b : Nat} {cs : Array Value} {T : TypeId} (h : w.heap[b]? = some (.cells cs T)) : w.frozen? ⟨b, 0, none⟩ = false ∧ w.frozen? ⟨b, 1, none⟩ = false ∧ w.frozen? ⟨b, 2, none⟩ = false ∧ w.frozen? ⟨b, 3, none⟩ = false ∧ w.frozen? ⟨b, 4, none⟩ = false :=
  ⟨free8 h 0, free8 h 1, free8 h 2, free8 h 3, free8 h 4⟩
set_option maxRecDepth 100000 in
set_option maxHeartbeats 4000000 in
theorem kit_LentPort {v : Value} {p : Pd} (w : World) (h : PdR w v p) (hS : PdS p) :
    Calls Tryz.prog 10 #[v] w fun e w' => ∃ q, e = .returned q ∧ LtP w' q p ∧ Below w.heap.size w w' := by
  obtain ⟨k0, A, n, c, A', n', c', B, k, d, rfl, k1, k2, k3⟩ := h
  obtain rfl := k1.len
  obtain rfl := k2.len
  obtain rfl := k3.len
  have HC := Lib.hid (fun w' (hb : Below w.heap.size w w') => kit_LentRatio p.g A A' p.l.length p.l'.length c c' p.l p.l' w' (k1.below hb) (k2.below hb) hS.1 hS.2.1)
  have HC' := Lib.hid (fun w' (hb : Below w.heap.size w w') => kit_LentTides w' (k3.below hb) hS.2.2.1 hS.2.2.2)
  have ht0 : (0 : Int) ≤ (p.ts.length : Int) := by omega
  clear k0 k1 k2 k3
  obtain ⟨W0, hW0⟩ : ∃ W, (w.alloc (.cells #[.string p.nm, .bool p.g, .slice A p.l.length c, .slice A' p.l'.length c', .slice B p.ts.length d] 27)).alloc (.cells #[.string ⟨#[]⟩, .bool false, .slice none 0 0, .slice none 0 0, .slice none 0 0] 27) = W := ⟨_, rfl⟩
  have hb0 : Below w.heap.size w W0 := by rw [← hW0]; exact ((Below.refl _ _).alloc (Nat.le_refl _) _).alloc (by simp) _
  have j0 : W0.heap[w.heap.size]? = some (.cells #[.string p.nm, .bool p.g, .slice A p.l.length c, .slice A' p.l'.length c', .slice B p.ts.length d] 27) := by rw [← hW0]; exact alloc_keep (heap_alloc_new w _) _
  have j1 : W0.heap[w.heap.size + 1]? = some (.cells #[.string ⟨#[]⟩, .bool false, .slice none 0 0, .slice none 0 0, .slice none 0 0] 27) := by rw [← hW0]; exact heap_new _ (by simp)
  have HA := Lib.hid (And.intro hb0 (And.intro j0 j1))
  have HF := Lib.hid (fun w' (hB : Below W0.heap.size W0 w') => cell5 (blk_below hB j0))
  clear hb0 j0 j1
  go_enter Tryz.func10, Tryz.ntmps10
  go_upto_region 1 with fail
  have HW0 := Lib.hid hW0
  clear hW0
  have hBs : Below W0.heap.size W0 W0.drew := below_drewN (Below.refl _ _) 1
  go_region_held3 (fun w' => w'.cell? ⟨w.heap.size, 0, none⟩ = some (.string p.nm) ∧ w'.cell? ⟨w.heap.size, 1, none⟩ = some (.bool p.g) ∧ w'.cell? ⟨w.heap.size, 2, none⟩ = some (.slice A p.l.length c) ∧ w'.cell? ⟨w.heap.size, 3, none⟩ = some (.slice A' p.l'.length c') ∧ w'.cell? ⟨w.heap.size, 4, none⟩ = some (.slice B p.ts.length d))
    (first
      | with_reducible exact HF.out _ hBs
      | with_reducible exact HF.out _ hBc2
      | with_reducible exact HF.out _ hBc3
      | (obtain ⟨u1, u2, u3, u4, u5⟩ := HF.out _ hBc3; go_simp))
    (first
      | (go_at_call 47; (with_reducible refine (HC.out _ (bel_step HA.out.1 hBs)).mono ?_); rintro e w2 ⟨b1, d1, b1', d1', rfl, hL1, hL1', hB2⟩; have hBc2 := bel_step hBs hB2)
      | (go_at_call 48; (with_reducible refine (HC'.out _ (bel_step HA.out.1 hBc2)).mono ?_); rintro e w3 ⟨bt, dt, rfl, hLt, hB3⟩; have hBc3 := bel_step hBc2 hB3; have hdt : p.ts.length ≤ dt := Nat.le_trans (Nat.le_add_right _ _) hLt.cap.1; have hdi : (p.ts.length : Int) ≤ (dt : Int) := (by omega); obtain ⟨s0, s1, s2, s3, s4⟩ := cell5 (blk_below hBc3 HA.out.2.2); obtain ⟨f0, f1, f2, f3, f4⟩ := free5 (blk_below hBc3 HA.out.2.2)))
  have HFin := Lib.hid (And.intro (hL1.below hB3) (And.intro (hL1'.below hB3) (And.intro hLt (And.intro (bel_step HA.out.1 hBc3) (And.intro s0 s1)))))
  clear hL1 hL1' hLt hB2 hB3 hBc2 hBs hBc3
  go_wp2_with fail
  exact bodyPost_ret (v := .agg #[.string p.nm, .bool p.g, .slice (some ⟨b1, 0, none⟩) p.l.length d1, .slice (some ⟨b1', 0, none⟩) p.l'.length d1', .slice (some ⟨bt, 0, none⟩) p.ts.length dt]) (by simp [results, Tryz.results10, go_sem, *]) rfl
    ⟨_, rfl, ⟨_, _, _, _, _, _, rfl, HFin.out.1.apart (set5_other _ _ _ _ _ (HFin.out.1.ne HFin.out.2.2.2.2.1 rfl)), HFin.out.2.1.apart (set5_other _ _ _ _ _ (HFin.out.2.1.ne HFin.out.2.2.2.2.1 rfl)), HFin.out.2.2.1.apart HFin.out.2.2.2.2.1 HFin.out.2.2.2.2.2 (fun b hb => set5_other _ _ _ _ _ hb)⟩,
      ((((HFin.out.2.2.2.1.setCell (Nat.le_succ _) _).setCell (Nat.le_succ _) _).setCell (Nat.le_succ _) _).setCell (Nat.le_succ _) _).setCell (Nat.le_succ _) _⟩
set_option maxRecDepth 100000 in
set_option maxHeartbeats 4000000 in
theorem kit_KeptPort {v q : Value} {p : Pd} (w : World) (hq : LtP w q p) (h : PdR w v p) (hS : PdS p) :
    Calls Tryz.prog 19 #[q, v] w fun e w' => e = .returned (.bool true) ∧ Below w.heap.size w w' := by
  obtain ⟨k0, A, n, c, A', n', c', B, k, d, rfl, k1, k2, k3⟩ := h
  obtain ⟨b1, d1, b1', d1', bt, dt, rfl, q1, q2, q3⟩ := hq
  obtain rfl := k1.len
  obtain rfl := k2.len
  obtain rfl := k3.len
  have HC := Lib.hid (fun w' (hb : Below w.heap.size w w') => kit_KeptRatio p.g b1 b1' d1 d1' A A' p.l.length p.l'.length c c' p.l p.l' w' (q1.below hb) (q2.below hb) (k1.below hb) (k2.below hb) hS.1 hS.2.1)
  have HC' := Lib.hid (fun w' (hb : Below w.heap.size w w') => kit_KeptTides w' (q3.below hb) (k3.below hb) hS.2.2.1 hS.2.2.2)
  have hcap := q3.cap.1
  have hts := hS.2.2.1
  have u1 : IntKind.i64.wrap ((p.ts.length : Int) + 3) = (p.ts.length : Int) + 3 := IntWalk.i64_in _ (by omega)
  have u2 : (0 : Int) ≤ (p.ts.length : Int) + 3 := by omega
  have u3 : (p.ts.length : Int) + 3 ≤ (dt : Int) := by omega
  have u4 : ((p.ts.length : Int) + 3).toNat = p.ts.length + 3 := by omega
  clear k0 k1 k2 k3 q1 q2 q3 hS hcap hts
  obtain ⟨W0, hW0⟩ : ∃ W, (w.alloc (.cells #[.string p.nm, .bool p.g, .slice (some ⟨b1, 0, none⟩) p.l.length d1, .slice (some ⟨b1', 0, none⟩) p.l'.length d1', .slice (some ⟨bt, 0, none⟩) p.ts.length dt] 27)).alloc (.cells #[.string p.nm, .bool p.g, .slice A p.l.length c, .slice A' p.l'.length c', .slice B p.ts.length d] 27) = W := ⟨_, rfl⟩
  have hb0 : Below w.heap.size w W0 := by rw [← hW0]; exact ((Below.refl _ _).alloc (Nat.le_refl _) _).alloc (by simp) _
  have j0 : W0.heap[w.heap.size]? = some (.cells #[.string p.nm, .bool p.g, .slice (some ⟨b1, 0, none⟩) p.l.length d1, .slice (some ⟨b1', 0, none⟩) p.l'.length d1', .slice (some ⟨bt, 0, none⟩) p.ts.length dt] 27) := by rw [← hW0]; exact alloc_keep (heap_alloc_new w _) _
  have j1 : W0.heap[w.heap.size + 1]? = some (.cells #[.string p.nm, .bool p.g, .slice A p.l.length c, .slice A' p.l'.length c', .slice B p.ts.length d] 27) := by rw [← hW0]; exact heap_new _ (by simp)
  have HA := Lib.hid hb0
  have HF := Lib.hid (fun w' (hB : Below W0.heap.size W0 w') => And.intro (cell5 (blk_below hB j0)) (cell5 (blk_below hB j1)))
  have e1 : (p.nm.toList == p.nm.toList) = true := by simp
  clear hb0 j0 j1
  go_enter Tryz.func19, Tryz.ntmps19
  go_upto_region 1 with fail
  have HW0 := Lib.hid hW0
  clear hW0
  have hBs : Below W0.heap.size W0 W0.drew := below_drewN (Below.refl _ _) 1
  go_region_held3 (fun w' => (w'.cell? ⟨w.heap.size, 0, none⟩ = some (.string p.nm) ∧ w'.cell? ⟨w.heap.size, 1, none⟩ = some (.bool p.g) ∧ w'.cell? ⟨w.heap.size, 2, none⟩ = some (.slice (some ⟨b1, 0, none⟩) p.l.length d1) ∧ w'.cell? ⟨w.heap.size, 3, none⟩ = some (.slice (some ⟨b1', 0, none⟩) p.l'.length d1') ∧ w'.cell? ⟨w.heap.size, 4, none⟩ = some (.slice (some ⟨bt, 0, none⟩) p.ts.length dt)) ∧
      (w'.cell? ⟨w.heap.size + 1, 0, none⟩ = some (.string p.nm) ∧ w'.cell? ⟨w.heap.size + 1, 1, none⟩ = some (.bool p.g) ∧ w'.cell? ⟨w.heap.size + 1, 2, none⟩ = some (.slice A p.l.length c) ∧ w'.cell? ⟨w.heap.size + 1, 3, none⟩ = some (.slice A' p.l'.length c') ∧ w'.cell? ⟨w.heap.size + 1, 4, none⟩ = some (.slice B p.ts.length d)))
    (first
      | with_reducible exact HF.out _ hBs
      | with_reducible exact HF.out _ hBc2
      | with_reducible exact HF.out _ hBc3)
    (first
      | (go_at_call 63; (with_reducible refine (HC.out _ (bel_step HA.out hBs)).mono ?_); rintro e w2 ⟨rfl, hB2⟩; have hBc2 := bel_step hBs hB2)
      | (go_at_call 64; (with_reducible refine (HC'.out _ (bel_step HA.out hBc2)).mono ?_); rintro e w3 ⟨rfl, hB3⟩; have hBc3 := bel_step hBc2 hB3))
  have HFin := Lib.hid (bel_step HA.out hBc3)
  clear hB2 hB3 hBc2 hBs hBc3
  go_wp2_with fail
  go_ret
  exact ⟨rfl, HFin.out⟩
end Go.Proofs.YtcbkijeonilcjaaGreat
