/- Package port: a fault. -/
import Derived.Test.YtcbkijeonilcjaaGreatHC19
import Derived.Test.YtcbkijeonilcjaaGreatHC33
import Derived.StillTailTactics
namespace Go.Proofs.YtcbkijeonilcjaaGreat
open Go.RowKit

theorem port_at (e p : Int) (w : World) :
    Calls Tryz.prog 124 #[.int .i64 e, .int .i64 p] w fun e1 w' => e1 = .returned (.agg #[.int .i64 e, .int .i64 p]) ∧ Below w.heap.size w w' := by
  go_enter Tryz.func124, Tryz.ntmps124
  go_wp2
  exact bodyPost_ret (v := .agg #[.int .i64 e, .int .i64 p]) (by simp [results, Tryz.results124, go_sem]) rfl ⟨rfl, (Below.refl _ _).alloc (Nat.le_refl _) _⟩
end Go.Proofs.YtcbkijeonilcjaaGreat

/- port.Check. -/
namespace Go.Proofs.YtcbkijeonilcjaaGreat
open Go.RowKit Go.Maps

theorem mapSUnd : Tryz.prog.underlying 157 = some (.map 9 160) := by kernel_rfl
theorem mapRUnd : Tryz.prog.underlying 158 = some (.map 58 160) := by kernel_rfl
set_option maxRecDepth 100000 in
set_option maxHeartbeats 2000000 in
theorem port_Check {v : Value} {p : Pd} (w : World) (h : PdR w v p) :
    Calls Tryz.prog 59 #[v] w fun e w' => e = .returned (.agg #[.int .i64 p.fault.1, .int .i64 p.fault.2]) ∧ Below w.heap.size w w' := by
  obtain ⟨h0, A, n, c, A', n', c', B, k, d, rfl, h1, h2, h3⟩ := h
  obtain ⟨W0, hW0⟩ : ∃ x, (w.alloc (.cells #[.string p.nm, .bool p.g, .slice A n c, .slice A' n' c', .slice B k d] 27)).alloc (.cells #[.int .i64 0, .int .i64 0] 101) = x := ⟨_, rfl⟩
  have hb0 : Below w.heap.size w W0 := by rw [← hW0]; exact ((Below.refl _ _).alloc (Nat.le_refl _) _).alloc (by simp) _
  have hk : W0.heap[w.heap.size]? = some (.cells #[.string p.nm, .bool p.g, .slice A n c, .slice A' n' c', .slice B k d] 27) := by rw [← hW0]; exact alloc_keep (heap_alloc_new w _) _
  have hf : W0.heap[w.heap.size + 1]? = some (.cells #[.int .i64 0, .int .i64 0] 101) := by rw [← hW0]; exact heap_new _ (by simp)
  obtain ⟨z0, z1, z2, z3, z4⟩ := cell5 hk
  have HA := Lib.hid (And.intro hb0 (And.intro hk (And.intro hf (And.intro (h1.below hb0) (And.intro (h2.below hb0) (h3.below hb0))))))
  have HS := Lib.hid (And.intro h0 h3.len)
  have hkb := h3.big.1
  clear hb0 hk hf h1 h2 h3 h0
  obtain ⟨F, hF⟩ : ∃ F, p.fault = F := ⟨_, rfl⟩
  rw [hF]
  have hmm := @run_makeMap Tryz.prog
  have HMM := Lib.hid hmm
  clear hmm
  go_enter Tryz.func59, Tryz.ntmps59
  go_wp2_with fail
  have HW0 := Lib.hid hW0
  clear hW0
  refine (tide_Name p.nm _ HS.out.1).mono ?_
  rintro e1 W0' ⟨rfl, rfl⟩
  cases hnm : nameB p.nm
  · have HE : Hid (F = (4, -1)) := by show F = _; rw [← hF]; unfold Pd.fault; rw [if_neg (by simp [hnm])]
    clear hnm hF z0 z1 z2 z3 z4
    go_wp2_with fail
    refine (port_at 4 (-1) _).mono ?_
    rintro e1 wz ⟨rfl, hBz⟩
    have hlz : w.heap.size + 1 < wz.heap.size := by have := hBz.size; have := heap_lt HA.out.2.2.1; omega
    obtain ⟨f0, f1, f2, f3⟩ := cell2 (blk_below hBz HA.out.2.2.1)
    go_wp2_with fail
    exact bodyPost_ret (v := .agg #[.int .i64 4, .int .i64 (-1)]) (by simp [results, Tryz.results59, go_sem, *]) rfl ⟨by rw [HE.out], below_set2 (bel_step HA.out.1 hBz) (by omega) _ _⟩
  · have HN : Hid (F = if chkR p.g p.l p.l' = 0 then (if p.ts.length ≤ 24 then tidesG p.ts 0 p.ts.length else (3, -1)) else (chkR p.g p.l p.l', -1)) := by show F = _; rw [← hF]; unfold Pd.fault; rw [if_pos hnm]
    clear hnm hF
    go_wp2_with fail
    refine (ratio_Check p.g A A' n n' c c' p.l p.l' _ HA.out.2.2.2.1 HA.out.2.2.2.2.1).mono ?_
    rintro e1 w1 ⟨rfl, hB1⟩
    clear z0 z1 z2 z3 z4
    have HK := Lib.hid (And.intro (bel_step HA.out.1 hB1) (And.intro (blk_below hB1 HA.out.2.1) (And.intro (blk_below hB1 HA.out.2.2.1) (HA.out.2.2.2.2.2.below hB1))))
    clear HA hB1
    by_cases hc : chkR p.g p.l p.l' = 0
    · rw [hc]
      have HM : Hid (F = if p.ts.length ≤ 24 then tidesG p.ts 0 p.ts.length else (3, -1)) := by show F = _; rw [HN.out, if_pos hc]
      clear hc HN
      obtain ⟨z0, z1, z2, z3, z4⟩ := cell5 HK.out.2.1
      by_cases hl : k ≤ 24
      · have HP : Hid (tidesG p.ts 0 k = F) := by show _ = F; rw [HM.out, HS.out.2, if_pos hl]
        clear HM
        have hmm := HMM.out
        have hl1 : w.heap.size + 1 < w1.heap.size := heap_lt HK.out.2.2.1
        go_upto_region 9 with fail
        obtain ⟨W2, hW2⟩ : ∃ x, (w1.alloc (.map #[] 0)).alloc (.map #[] 0) = x := ⟨_, rfl⟩
        rw [hW2]
        have hb2 : Below w1.heap.size w1 W2 := by rw [← hW2]; exact ((Below.refl _ _).alloc (Nat.le_refl _) _).alloc (by simp) _
        have hm1 : W2.ownsMap Tryz.prog 9 unitElem w1.heap.size 0 (namesD []) := by rw [← hW2]; exact (World.ownsMap_made _ _ _ _).alloc _
        have hm2 : W2.ownsMap Tryz.prog 58 unitElem (w1.heap.size + 1) 0 (rotsD []) := by
          rw [← hW2]
          have := World.ownsMap_made (H := Unit) (w1.alloc (.map #[] 0)) Tryz.prog 58 unitElem
          rw [rotsD_nil]
          simpa using this
        have hsz2 : w1.heap.size + 2 ≤ W2.heap.size := by rw [← hW2]; simp
        have HK2 := Lib.hid (And.intro hsz2 (And.intro (bel_step HK.out.1 hb2) (And.intro (blk_below hb2 HK.out.2.1) (And.intro (blk_below hb2 HK.out.2.2.1) (And.intro (HK.out.2.2.2.below hb2) (And.intro hm1 hm2))))))
        obtain ⟨M, hM⟩ : ∃ M, w1.heap.size = M := ⟨_, rfl⟩
        rw [hM] at HK2 hl1
        simp only [hM]
        clear hW2 hb2 hm1 hm2 hsz2 HK hM z0 z1 z2 z3 z4 hmm
        obtain ⟨z0, z1, z2, z3, z4⟩ := cell5 HK2.out.2.2.1
        go_wp2_with fail
        clear z0 z1 z2 z3 z4
        go_loopg [35] k (fun g iv wr => ∃ i : Nat, iv = .int .i64 i ∧ i + g = k ∧ tidesG p.ts i g = F ∧ (∀ T ∈ p.ts.take i, T.rng) ∧ M + 2 ≤ wr.heap.size ∧ Below w.heap.size w wr ∧ wr.heap[w.heap.size]? = some (.cells #[.string p.nm, .bool p.g, .slice A n c, .slice A' n' c', .slice B k d] 27) ∧ wr.heap[w.heap.size + 1]? = some (.cells #[.int .i64 0, .int .i64 0] 101) ∧ TsR wr B k d p.ts ∧ wr.ownsMap Tryz.prog 9 unitElem M i (namesD (p.ts.take i)) ∧ wr.ownsMap Tryz.prog 58 unitElem (M + 1) i (rotsD (p.ts.take i)))
        case atStart => exact ⟨0, rfl, by omega, HP.out, by simp, HK2.out⟩
        case round =>
          obtain ⟨i, rfl, hi, hth, hrn, hk⟩ := hrel
          have HT := Lib.hid hth
          have HR := Lib.hid hrn
          have KK := Lib.hid hk
          clear hth hk hrn HP HK2
          by_cases hin : i < k
          · obtain ⟨b, o, rfl, hcel⟩ := KK.out.2.2.2.2.1.cell (by omega)
            have hil : i < p.ts.length := by rw [HS.out.2]; exact hin
            obtain ⟨A1, n1, c1, A1', n1', c1', A2, n2, c2, A2', n2', c2', ⟨q0, q1, q2, q3, q4, q5, q6, q7, q8⟩, hV⟩ := hcel i hil
            have HV := Lib.hid hV
            have HC := Lib.hid hcel
            clear hV hcel
            have hg1 : gk = (gk - 1) + 1 := by omega
            have HT2 : Hid ((if p.ts[i].err = 0 then (if thereB (p.ts.take i) p.ts[i].nm p.ts[i].far p.ts[i].near = true then (5, (i : Int)) else tidesG p.ts (i + 1) (gk - 1)) else (p.ts[i].err, (i : Int))) = F) := by
              have := HT.out
              rw [hg1] at this
              unfold tidesG at this
              rw [List.getElem?_eq_getElem hil] at this
              exact this
            have HTK : Hid (p.ts.take (i + 1) = p.ts.take i ++ [p.ts[i]]) := by
              show _ = _
              rw [List.take_add_one, List.getElem?_eq_getElem hil]; rfl
            clear HT hg1
            generalize hT : p.ts[i] = T at *
            clear hT
            have hwl : M + 2 ≤ wr.heap.size := KK.out.1
            go_upto_region 12 with fail
            obtain ⟨W3, hW3⟩ : ∃ x, wr.alloc (.cells #[.string T.nm, .int .i32 T.far, .int .i32 T.near, .bool T.g1, .slice A1 n1 c1, .slice A1' n1' c1', .bool T.g2, .slice A2 n2 c2, .slice A2' n2' c2'] 85) = x := ⟨_, rfl⟩
            rw [hW3]
            have hb3 : Below wr.heap.size wr W3 := by rw [← hW3]; exact (Below.refl _ _).alloc (Nat.le_refl _) _
            have hq3 : W3.heap[wr.heap.size]? = some (.cells #[.string T.nm, .int .i32 T.far, .int .i32 T.near, .bool T.g1, .slice A1 n1 c1, .slice A1' n1' c1', .bool T.g2, .slice A2 n2 c2, .slice A2' n2' c2'] 85) := by rw [← hW3]; exact heap_alloc_new wr _
            have H3 := Lib.hid (And.intro hb3 hq3)
            clear hW3 hb3 hq3 q0 q1 q2 q3 q4 q5 q6 q7 q8
            obtain ⟨q0, q1, q2, q3, q4, q5, q6, q7, q8⟩ := cell9 H3.out.2
            go_wp2_with fail
            refine (tide_Check T.nm T.far T.near W3 HV.out.1.1 HV.out.1.2.1 HV.out.1.2.2 (HV.out.2.1.below H3.out.1) (HV.out.2.2.1.below H3.out.1) (HV.out.2.2.2.1.below H3.out.1) (HV.out.2.2.2.2.below H3.out.1)).mono ?_
            rintro e1 w4 ⟨rfl, hB4⟩
            rw [show tideE T.nm T.far T.near (chk2 (chkR T.g1 T.l1 T.l1') (chkR T.g2 T.l2 T.l2')) = T.err from rfl]
            have hB04 := bel_step H3.out.1 hB4
            have K4 := Lib.hid (And.intro (Nat.le_trans KK.out.1 hB04.size) (And.intro (bel_step KK.out.2.1 hB04) (And.intro (blk_below hB04 KK.out.2.2.1) (And.intro (blk_below hB04 KK.out.2.2.2.1) (And.intro (KK.out.2.2.2.2.1.below hB04) (And.intro (ownsMap_below KK.out.2.2.2.2.2.1 hB04) (ownsMap_below KK.out.2.2.2.2.2.2 hB04)))))))
            have HQ4 := Lib.hid (blk_below hB4 H3.out.2)
            have hl4 : wr.heap.size < w4.heap.size := heap_lt HQ4.out
            clear q0 q1 q2 q3 q4 q5 q6 q7 q8 KK H3 hB04 hB4
            by_cases he : T.err = 0
            · rw [he]
              have HT3 : Hid ((if thereB (p.ts.take i) T.nm T.far T.near = true then (5, (i : Int)) else tidesG p.ts (i + 1) (gk - 1)) = F) := by
                have := HT2.out
                rw [if_pos he] at this
                exact this
              have hrg := err_rng he
              have HRG := Lib.hid hrg
              have hth := there_split (p.ts.take i) T.nm T.far T.near
              have hn1 := has_namesD (p.ts.take i) T.nm
              have hn2 := has_rotsD (p.ts.take i) T HR.out hrg
              rw [← hn1, ← hn2] at hth
              have HTH := Lib.hid hth
              have hkey1 := nk_key HV.out.1.1
              have hkey2 := rk_key hrg.1 hrg.2
              have HKY := Lib.hid (And.intro hkey1 hkey2)
              clear he HT2 hth hn1 hn2 hrg hkey1 hkey2
              obtain ⟨q0, q1, q2, q3, q4, q5, q6, q7, q8⟩ := cell9 HQ4.out
              cases hx1 : Maps.has (namesD (p.ts.take i)) (nk T.nm)
              · cases hx2 : Maps.has (rotsD (p.ts.take i)) (rk T.far T.near)
                · have HE : Hid (tidesG p.ts (i + 1) (gk - 1) = F) := by
                    have := HT3.out
                    rw [if_neg (by rw [HTH.out, hx1, hx2]; simp)] at this
                    exact this
                  clear HT3
                  go_wp2_with (first | (at_lookup; refine wpList_lookup_own_unit _ rfl _ _ 157 rfl 9 160 lawStr mapSUnd (zeroUnit _) M i _ rfl K4.out.2.2.2.2.2.1 _ _ rfl HKY.out.1 ?_) | (at_lookup; refine wpList_lookup_own_unit _ rfl _ _ 158 rfl 58 160 lawRot mapRUnd (zeroUnit _) (M + 1) i _ rfl (K4.out.2.2.2.2.2.2.alloc _) _ _ rfl HKY.out.2 ?_))
                  obtain ⟨W5, hW5⟩ : ∃ x, (w4.alloc (.cells #[] 160)).alloc (.cells #[] 160) = x := ⟨_, rfl⟩
                  rw [hW5]
                  have hb5 : Below w4.heap.size w4 W5 := by rw [← hW5]; exact ((Below.refl _ _).alloc (Nat.le_refl _) _).alloc (by simp) _
                  have K5 := Lib.hid (And.intro (Nat.le_trans K4.out.1 hb5.size) (And.intro (bel_step K4.out.2.1 hb5) (And.intro (blk_below hb5 K4.out.2.2.1) (And.intro (blk_below hb5 K4.out.2.2.2.1) (And.intro (K4.out.2.2.2.2.1.below hb5) (And.intro (ownsMap_below K4.out.2.2.2.2.2.1 hb5) (ownsMap_below K4.out.2.2.2.2.2.2 hb5)))))))
                  have HQ5 := Lib.hid (blk_below hb5 HQ4.out)
                  have hl5 : wr.heap.size < W5.heap.size := heap_lt HQ5.out
                  clear hW5 hb5 q0 q1 q2 q3 q4 q5 q6 q7 q8 K4 HQ4 hx1 hx2
                  obtain ⟨q0, q1, q2, q3, q4, q5, q6, q7, q8⟩ := cell9 HQ5.out
                  clear q3 q4 q5 q6 q7 q8
                  have hkl : i < maxLen := by unfold maxLen; omega
                  obtain ⟨w6, hrun6, hown6, ht6⟩ := World.ownsMap.store (w := W5.drew) (val := .agg #[]) K5.out.2.2.2.2.2.1 lawStr mapSUnd hkl HKY.out.1 unitElem_mk
                  have y0 := turned_cell ht6 (show W5.drew.cell? _ = _ from q0)
                  have y1 := turned_cell ht6 (show W5.drew.cell? _ = _ from q1)
                  have y2 := turned_cell ht6 (show W5.drew.cell? _ = _ from q2)
                  obtain ⟨w7, hrun7, hown7, ht7⟩ := World.ownsMap.store (w := w6) (val := .agg #[]) (World.ownsMap.kept (w := W5.drew) K5.out.2.2.2.2.2.2 ht6.grown (by simp)) lawRot mapRUnd hkl HKY.out.2 unitElem_mk
                  have x0 := turned_cell ht7 y0
                  have x1 := turned_cell ht7 y1
                  have x2 := turned_cell ht7 y2
                  have H6 := Lib.hid (And.intro hown6 ht6)
                  have H7 := Lib.hid (And.intro hown7 ht7)
                  clear hown6 hown7 ht6 ht7
                  go_region_held3 (fun w' => w'.cell? ⟨wr.heap.size, 0, none⟩ = some (.string T.nm) ∧ w'.cell? ⟨wr.heap.size, 1, none⟩ = some (.int .i32 T.far) ∧ w'.cell? ⟨wr.heap.size, 2, none⟩ = some (.int .i32 T.near))
                    (first | exact ⟨q0, q1, q2⟩ | exact ⟨y0, y1, y2⟩ | exact ⟨x0, x1, x2⟩)
                    (first | fail)
                  all_goals
                    clear q0 q1 q2 y0 y1 y2 x0 x1 x2 hrun6 hrun7
                    go_wp2_with fail
                    have s6 := H6.out.2.grown.size
                    have s7 := H7.out.2.grown.size
                    have s5 := K5.out.1
                    have s6' : W5.heap.size ≤ w6.heap.size := s6
                    have hls := K5.out.2.1.size
                    go_roundg (gk - 1)
                    case measure => omega
                    case rel =>
                      refine ⟨i + 1, by simp, by omega, HE.out, ?_, by omega, ?_, ?_, ?_, ?_, ?_, ?_⟩
                      · intro T' hT'
                        rw [HTK.out] at hT'
                        rcases List.mem_append.1 hT' with hT' | hT'
                        · exact HR.out T' hT'
                        · rw [List.mem_singleton.1 hT']; exact HRG.out
                      · exact ((below_drewN K5.out.2.1 1).grown H6.out.2.grown hls (fun j hj => by cases hj; omega)).grown H7.out.2.grown (by omega) (fun j hj => by cases hj; omega)
                      · exact turned_heap H7.out.2 (turned_heap H6.out.2 (show W5.drew.heap[w.heap.size]? = _ from K5.out.2.2.1) (by omega)) (by omega)
                      · exact turned_heap H7.out.2 (turned_heap H6.out.2 (show W5.drew.heap[w.heap.size + 1]? = _ from K5.out.2.2.2.1) (by omega)) (by omega)
                      · exact TsR.keepc (w := W5) K5.out.2.2.2.2.1 (fun {a v} e => turned_cell H7.out.2 (turned_cell H6.out.2 (show W5.drew.cell? a = some v from e)))
                      · rw [HTK.out, namesD_snoc]
                        exact H6.out.1.kept H7.out.2.grown (by simp)
                      · rw [HTK.out, rotsD_snoc]
                        exact H7.out.1
                · have HE : Hid (F = (5, (i : Int))) := by
                    have := HT3.out
                    rw [if_pos (by rw [HTH.out, hx1, hx2]; simp)] at this
                    exact this.symm
                  clear HT3
                  go_wp2_with (first | (at_lookup; refine wpList_lookup_own_unit _ rfl _ _ 157 rfl 9 160 lawStr mapSUnd (zeroUnit _) M i _ rfl K4.out.2.2.2.2.2.1 _ _ rfl HKY.out.1 ?_) | (at_lookup; refine wpList_lookup_own_unit _ rfl _ _ 158 rfl 58 160 lawRot mapRUnd (zeroUnit _) (M + 1) i _ rfl (K4.out.2.2.2.2.2.2.alloc _) _ _ rfl HKY.out.2 ?_))
                  obtain ⟨W5, hW5⟩ : ∃ x, (w4.alloc (.cells #[] 160)).alloc (.cells #[] 160) = x := ⟨_, rfl⟩
                  rw [hW5]
                  have hb5 : Below w4.heap.size w4 W5 := by rw [← hW5]; exact ((Below.refl _ _).alloc (Nat.le_refl _) _).alloc (by simp) _
                  have K5 := Lib.hid (And.intro (Nat.le_trans K4.out.1 hb5.size) (And.intro (bel_step K4.out.2.1 hb5) (And.intro (blk_below hb5 K4.out.2.2.1) (And.intro (blk_below hb5 K4.out.2.2.2.1) (And.intro (K4.out.2.2.2.2.1.below hb5) (And.intro (ownsMap_below K4.out.2.2.2.2.2.1 hb5) (ownsMap_below K4.out.2.2.2.2.2.2 hb5)))))))
                  have HQ5 := Lib.hid (blk_below hb5 HQ4.out)
                  have hl5 : wr.heap.size < W5.heap.size := heap_lt HQ5.out
                  clear hW5 hb5 q0 q1 q2 q3 q4 q5 q6 q7 q8 K4 HQ4 hx1 hx2
                  obtain ⟨q0, q1, q2, q3, q4, q5, q6, q7, q8⟩ := cell9 HQ5.out
                  clear q3 q4 q5 q6 q7 q8
                  refine (port_at 5 (i : Int) _).mono ?_
                  rintro e1 wz ⟨rfl, hBz⟩
                  have hlz : w.heap.size + 1 < wz.heap.size := by have := hBz.size; have := heap_lt K5.out.2.2.2.1; omega
                  obtain ⟨f0, f1, f2, f3⟩ := cell2 (blk_below hBz K5.out.2.2.2.1)
                  go_wp2_with fail
                  exact bodyPost_ret (v := .agg #[.int .i64 5, .int .i64 (i : Int)]) (by simp [results, Tryz.results59, go_sem, *]) rfl ⟨by rw [HE.out], below_set2 (bel_step K5.out.2.1 hBz) (by omega) _ _⟩
              · have HE : Hid (F = (5, (i : Int))) := by
                  have := HT3.out
                  rw [if_pos (by rw [HTH.out, hx1]; simp)] at this
                  exact this.symm
                clear HT3
                cases hx2 : Maps.has (rotsD (p.ts.take i)) (rk T.far T.near)
                · go_wp2_with (first | (at_lookup; refine wpList_lookup_own_unit _ rfl _ _ 157 rfl 9 160 lawStr mapSUnd (zeroUnit _) M i _ rfl K4.out.2.2.2.2.2.1 _ _ rfl HKY.out.1 ?_) | (at_lookup; refine wpList_lookup_own_unit _ rfl _ _ 158 rfl 58 160 lawRot mapRUnd (zeroUnit _) (M + 1) i _ rfl (K4.out.2.2.2.2.2.2.alloc _) _ _ rfl HKY.out.2 ?_))
                  obtain ⟨W5, hW5⟩ : ∃ x, (w4.alloc (.cells #[] 160)).alloc (.cells #[] 160) = x := ⟨_, rfl⟩
                  rw [hW5]
                  have hb5 : Below w4.heap.size w4 W5 := by rw [← hW5]; exact ((Below.refl _ _).alloc (Nat.le_refl _) _).alloc (by simp) _
                  have K5 := Lib.hid (And.intro (Nat.le_trans K4.out.1 hb5.size) (And.intro (bel_step K4.out.2.1 hb5) (And.intro (blk_below hb5 K4.out.2.2.1) (And.intro (blk_below hb5 K4.out.2.2.2.1) (And.intro (K4.out.2.2.2.2.1.below hb5) (And.intro (ownsMap_below K4.out.2.2.2.2.2.1 hb5) (ownsMap_below K4.out.2.2.2.2.2.2 hb5)))))))
                  have HQ5 := Lib.hid (blk_below hb5 HQ4.out)
                  have hl5 : wr.heap.size < W5.heap.size := heap_lt HQ5.out
                  clear hW5 hb5 q0 q1 q2 q3 q4 q5 q6 q7 q8 K4 HQ4 hx1 hx2
                  obtain ⟨q0, q1, q2, q3, q4, q5, q6, q7, q8⟩ := cell9 HQ5.out
                  clear q3 q4 q5 q6 q7 q8
                  refine (port_at 5 (i : Int) _).mono ?_
                  rintro e1 wz ⟨rfl, hBz⟩
                  have hlz : w.heap.size + 1 < wz.heap.size := by have := hBz.size; have := heap_lt K5.out.2.2.2.1; omega
                  obtain ⟨f0, f1, f2, f3⟩ := cell2 (blk_below hBz K5.out.2.2.2.1)
                  go_wp2_with fail
                  exact bodyPost_ret (v := .agg #[.int .i64 5, .int .i64 (i : Int)]) (by simp [results, Tryz.results59, go_sem, *]) rfl ⟨by rw [HE.out], below_set2 (bel_step K5.out.2.1 hBz) (by omega) _ _⟩
                · go_wp2_with (first | (at_lookup; refine wpList_lookup_own_unit _ rfl _ _ 157 rfl 9 160 lawStr mapSUnd (zeroUnit _) M i _ rfl K4.out.2.2.2.2.2.1 _ _ rfl HKY.out.1 ?_) | (at_lookup; refine wpList_lookup_own_unit _ rfl _ _ 158 rfl 58 160 lawRot mapRUnd (zeroUnit _) (M + 1) i _ rfl (K4.out.2.2.2.2.2.2.alloc _) _ _ rfl HKY.out.2 ?_))
                  obtain ⟨W5, hW5⟩ : ∃ x, (w4.alloc (.cells #[] 160)).alloc (.cells #[] 160) = x := ⟨_, rfl⟩
                  rw [hW5]
                  have hb5 : Below w4.heap.size w4 W5 := by rw [← hW5]; exact ((Below.refl _ _).alloc (Nat.le_refl _) _).alloc (by simp) _
                  have K5 := Lib.hid (And.intro (Nat.le_trans K4.out.1 hb5.size) (And.intro (bel_step K4.out.2.1 hb5) (And.intro (blk_below hb5 K4.out.2.2.1) (And.intro (blk_below hb5 K4.out.2.2.2.1) (And.intro (K4.out.2.2.2.2.1.below hb5) (And.intro (ownsMap_below K4.out.2.2.2.2.2.1 hb5) (ownsMap_below K4.out.2.2.2.2.2.2 hb5)))))))
                  have HQ5 := Lib.hid (blk_below hb5 HQ4.out)
                  have hl5 : wr.heap.size < W5.heap.size := heap_lt HQ5.out
                  clear hW5 hb5 q0 q1 q2 q3 q4 q5 q6 q7 q8 K4 HQ4 hx1 hx2
                  obtain ⟨q0, q1, q2, q3, q4, q5, q6, q7, q8⟩ := cell9 HQ5.out
                  clear q3 q4 q5 q6 q7 q8
                  refine (port_at 5 (i : Int) _).mono ?_
                  rintro e1 wz ⟨rfl, hBz⟩
                  have hlz : w.heap.size + 1 < wz.heap.size := by have := hBz.size; have := heap_lt K5.out.2.2.2.1; omega
                  obtain ⟨f0, f1, f2, f3⟩ := cell2 (blk_below hBz K5.out.2.2.2.1)
                  go_wp2_with fail
                  exact bodyPost_ret (v := .agg #[.int .i64 5, .int .i64 (i : Int)]) (by simp [results, Tryz.results59, go_sem, *]) rfl ⟨by rw [HE.out], below_set2 (bel_step K5.out.2.1 hBz) (by omega) _ _⟩
            · have HE : Hid (F = (T.err, (i : Int))) := by
                have := HT2.out
                rw [if_neg he] at this
                exact this.symm
              have e9 : (T.err != 0) = true := by simp [he]
              clear HT2 he
              go_wp2_with fail
              refine (port_at T.err (i : Int) _).mono ?_
              rintro e1 wz ⟨rfl, hBz⟩
              have hlz : w.heap.size + 1 < wz.heap.size := by have := hBz.size; have := heap_lt K4.out.2.2.2.1; omega
              obtain ⟨f0, f1, f2, f3⟩ := cell2 (blk_below hBz K4.out.2.2.2.1)
              go_wp2_with fail
              exact bodyPost_ret (v := .agg #[.int .i64 T.err, .int .i64 (i : Int)]) (by simp [results, Tryz.results59, go_sem, *]) rfl ⟨by rw [HE.out], below_set2 (bel_step K4.out.2.1 hBz) (by omega) _ _⟩
          · have hin2 : i = k := by omega
            have hg0 : gk = 0 := by omega
            have HE : Hid (F = (0, 0)) := by show F = _; rw [← HT.out, hg0]; rfl
            subst hin2 hg0
            obtain ⟨f0, f1, f2, f3⟩ := cell2 KK.out.2.2.2.1
            go_wp2_with fail
            exact bodyPost_ret (v := .agg #[.int .i64 0, .int .i64 0]) (by simp [results, Tryz.results59, go_sem, *]) rfl ⟨by rw [HE.out], below_set2 KK.out.2.1 (by omega) _ _⟩
      · have HE : Hid (F = (3, -1)) := by show F = _; rw [HM.out, HS.out.2, if_neg hl]
        clear HM
        go_wp2_with fail
        clear z0 z1 z2 z3 z4
        refine (port_at 3 (-1) _).mono ?_
        rintro e1 wz ⟨rfl, hBz⟩
        have hlz : w.heap.size + 1 < wz.heap.size := by have := hBz.size; have := heap_lt HK.out.2.2.1; omega
        obtain ⟨f0, f1, f2, f3⟩ := cell2 (blk_below hBz HK.out.2.2.1)
        go_wp2_with fail
        exact bodyPost_ret (v := .agg #[.int .i64 3, .int .i64 (-1)]) (by simp [results, Tryz.results59, go_sem, *]) rfl ⟨by rw [HE.out], below_set2 (bel_step HK.out.1 hBz) (by omega) _ _⟩
    · have HE : Hid (F = (chkR p.g p.l p.l', -1)) := by show F = _; rw [HN.out, if_neg hc]
      have e9 : (chkR p.g p.l p.l' != 0) = true := by simp [hc]
      clear HN hc
      go_wp2_with fail
      refine (port_at (chkR p.g p.l p.l') (-1) _).mono ?_
      rintro e1 wz ⟨rfl, hBz⟩
      have hlz : w.heap.size + 1 < wz.heap.size := by have := hBz.size; have := heap_lt HK.out.2.2.1; omega
      obtain ⟨f0, f1, f2, f3⟩ := cell2 (blk_below hBz HK.out.2.2.1)
      go_wp2_with fail
      exact bodyPost_ret (v := .agg #[.int .i64 (chkR p.g p.l p.l'), .int .i64 (-1)]) (by simp [results, Tryz.results59, go_sem, *]) rfl ⟨by rw [HE.out], below_set2 (bel_step HK.out.1 hBz) (by omega) _ _⟩
end Go.Proofs.YtcbkijeonilcjaaGreat
