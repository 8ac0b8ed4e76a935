/- height.near and its reference's wide: all numbers of a port are near. -/
import Derived.Test.YtcbkijeonilcjaaGreatHC25
import Derived.Test.YtcbkijeonilcjaaGreatHC32
import Derived.Maps.OwnSet
import Derived.Maps.AppendAt
import Derived.DeepKeys4
import Derived.StringKeys
import Derived.Deep.AppendLies
namespace Go.Proofs.YtcbkijeonilcjaaGreat
open Go.RowKit

theorem all_take {α : Type} (q : α → Bool) (l : List α) (i : Nat) (h : i < l.length) : (l.take (i + 1)).all q = ((l.take i).all q && q l[i]) := by
  rw [List.take_succ_eq_append_getElem h, List.all_append]; simp
def nrT (T : Tn) : Bool := nrB T.re && nrB T.im
theorem near_def (P : Pn) : P.near = (nrB P.mean && P.ts.all nrT) := rfl
/-- the nine cells of a constituent that was copied -/
theorem tide_cells {w : World} {b o : Nat} {N : Tn} (h : TnC w b o N) : ∃ nm A1 c1 A1' c1' A2 c2 A2' c2',
    (w.cell? ⟨b, o, none⟩ = some (.string nm) ∧ w.cell? ⟨b, o + 1, none⟩ = some (.int .i32 N.far) ∧ w.cell? ⟨b, o + 2, none⟩ = some (.int .i32 N.near) ∧ w.cell? ⟨b, o + 3, none⟩ = some (.bool (rneg N.re)) ∧ w.cell? ⟨b, o + 4, none⟩ = some (.slice A1 (wl (rnum N.re)) c1) ∧ w.cell? ⟨b, o + 5, none⟩ = some (.slice A1' (wl N.re.den) c1') ∧ w.cell? ⟨b, o + 6, none⟩ = some (.bool (rneg N.im)) ∧ w.cell? ⟨b, o + 7, none⟩ = some (.slice A2 (wl (rnum N.im)) c2) ∧ w.cell? ⟨b, o + 8, none⟩ = some (.slice A2' (wl N.im.den) c2')) ∧
    (∀ w', Below w.heap.size w w' → RtR w' (.agg #[.bool (rneg N.re), .slice A1 (wl (rnum N.re)) c1, .slice A1' (wl N.re.den) c1']) N.re) ∧ (∀ w', Below w.heap.size w w' → RtR w' (.agg #[.bool (rneg N.im), .slice A2 (wl (rnum N.im)) c2, .slice A2' (wl N.im.den) c2']) N.im) := by
  obtain ⟨nm, A1, c1, A1', c1', A2, c2, A2', c2', h0, ⟨r1, r2⟩, r3, r4⟩ := h
  exact ⟨nm, A1, c1, A1', c1', A2, c2, A2', c2', h0, fun w' hb => ⟨_, _, _, _, rfl, r1.below hb, r2.below hb⟩, fun w' hb => ⟨_, _, _, _, rfl, r3.below hb, r4.below hb⟩⟩
def PFit (P : Pn) : Prop := fits P.mean ∧ ∀ T ∈ P.ts, fits T.re ∧ fits T.im
theorem PdN.fit {p : Pd} {P : Pn} (h : PdN p P) : PFit P := by
  obtain ⟨h1, h2, h3, h4⟩ := h
  refine ⟨h1.1, fun T hT => ?_⟩
  obtain ⟨j, hj, rfl⟩ := List.getElem_of_mem hT
  obtain ⟨_, b, c⟩ := h4 j (by omega) hj
  exact ⟨b.1, c.1⟩
/-- the world of the loop: the port's box, 2^500 and 2^-500 in theirs -/
def NearW (w wr : World) (pc : Array Value) (M : Nat) (hi lo : Array Value) (B : Option Addr) (k d : Nat) (ts : List Tn) (A : Option Addr) (c : Nat) (A' : Option Addr) (c' : Nat) : Prop :=
  Below w.heap.size w wr ∧ wr.heap[w.heap.size]? = some (.cells pc 27 (0, 0)) ∧ wr.heap[M]? = some (.cells hi 24 (0, 0)) ∧ wr.heap[M + 1]? = some (.cells lo 24 (0, 0)) ∧ TnS wr B k d ts ∧ HiLo wr A c A' c'
theorem NearW.step {w wr w' : World} {pc hi lo : Array Value} {M k d c c' : Nat} {B A A' : Option Addr} {ts : List Tn} (h : NearW w wr pc M hi lo B k d ts A c A' c') (hb : Below wr.heap.size wr w') : NearW w w' pc M hi lo B k d ts A c A' c' :=
  ⟨bel_step h.1 hb, blk_below hb h.2.1, blk_below hb h.2.2.1, blk_below hb h.2.2.2.1, h.2.2.2.2.1.below hb, h.2.2.2.2.2.below hb⟩
set_option maxRecDepth 100000 in
set_option maxHeartbeats 2000000 in
theorem height_near {v : Value} {P : Pn} (w : World) (h : PnR w v P) (hf : PFit P) :
    Calls Tryz.prog 60 #[v] w fun e w' => e = .returned (.bool P.near) ∧ Below w.heap.size w w' := by
  obtain ⟨nm, A, c, A', c', B, k, d, rfl, h1, h2, h3⟩ := h
  obtain ⟨W0, hW0⟩ : ∃ x, w.alloc (.cells #[.string nm, .bool (rneg P.mean), .slice A (wl (rnum P.mean)) c, .slice A' (wl P.mean.den) c', .slice B k d] 27) = x := ⟨_, rfl⟩
  have hb0 : Below w.heap.size w W0 := by rw [← hW0]; exact (Below.refl _ _).alloc (Nat.le_refl _) _
  have hk : W0.heap[w.heap.size]? = some (.cells #[.string nm, .bool (rneg P.mean), .slice A (wl (rnum P.mean)) c, .slice A' (wl P.mean.den) c', .slice B k d] 27) := by rw [← hW0]; exact heap_alloc_new w _
  have hRM : ∀ w', Below w.heap.size w w' → RtR w' (.agg #[.bool (rneg P.mean), .slice A (wl (rnum P.mean)) c, .slice A' (wl P.mean.den) c']) P.mean := fun w' hb => ⟨_, _, _, _, rfl, h1.below hb, h2.below hb⟩
  have HM := Lib.hid hRM
  have HA := Lib.hid (And.intro hb0 (And.intro hk (h3.below hb0)))
  have hkb := h3.big.1
  have HL := Lib.hid h3.len
  have HF := Lib.hid hf
  have HND := Lib.hid (near_def P)
  clear hb0 hk h1 h2 h3 hRM hf
  generalize rneg P.mean = g at *
  generalize wl (rnum P.mean) = n1 at *
  generalize wl P.mean.den = n2 at *
  go_enter Tryz.func60, Tryz.ntmps60
  go_wp2_with fail
  have HW0 := Lib.hid hW0
  clear hW0
  refine (height_bounds W0).mono ?_
  rintro e w1 ⟨E, ce, E', ce', rfl, hHL, hB1⟩
  obtain ⟨W2, hW2⟩ : ∃ x, (w1.alloc (.cells #[.bool false, .slice E 16 ce, .slice E' 1 ce'] 24)).alloc (.cells #[.bool false, .slice E' 1 ce', .slice E 16 ce] 24) = x := ⟨_, rfl⟩
  have hb2 : Below w1.heap.size w1 W2 := by rw [← hW2]; exact ((Below.refl _ _).alloc (Nat.le_refl _) _).alloc (by simp) _
  have hN2 : NearW w W2 #[.string nm, .bool g, .slice A n1 c, .slice A' n2 c', .slice B k d] w1.heap.size #[.bool false, .slice E 16 ce, .slice E' 1 ce'] #[.bool false, .slice E' 1 ce', .slice E 16 ce] B k d P.ts E ce E' ce' :=
    ⟨bel_step (bel_step HA.out.1 hB1) hb2, blk_below hb2 (blk_below hB1 HA.out.2.1), by rw [← hW2]; exact alloc_keep (heap_alloc_new w1 _) _, by rw [← hW2]; exact heap_new _ (by simp), (HA.out.2.2.below hB1).below hb2, hHL.below hb2⟩
  have hl1 : w.heap.size < w1.heap.size := heap_lt (blk_below hB1 HA.out.2.1)
  obtain ⟨M, hM⟩ : ∃ M, w1.heap.size = M := ⟨_, rfl⟩
  rw [hM] at hN2 hl1
  have HN2 := Lib.hid hN2
  clear hb2 hN2 hB1 hHL HA
  go_upto_region 2 with fail
  have HW2 := Lib.hid hW2
  have HM1 := Lib.hid hM
  clear hW2 hM
  obtain ⟨z0, z1, z2, z3, z4⟩ := cell5 HN2.out.2.1
  obtain ⟨r0, r1, r2, r3, r4, r5⟩ := cell3 HN2.out.2.2.1
  obtain ⟨s0, s1, s2, s3, s4, s5⟩ := cell3 HN2.out.2.2.2.1
  go_wp2_with fail
  refine (height_reached W2 (HM.out W2 HN2.out.1) HF.out.1 HN2.out.2.2.2.2.2).mono ?_
  rintro e w3 ⟨rfl, hB3⟩
  have HN3 := Lib.hid (HN2.out.step hB3)
  clear z0 z1 z2 z3 z4 r0 r1 r2 r3 r4 r5 s0 s1 s2 s3 s4 s5 hB3 HN2
  obtain ⟨z0, z1, z2, z3, z4⟩ := cell5 HN3.out.2.1
  go_wp2_with fail
  clear z0 z1 z2 z3 z4
  go_loopg [5, 20] k (fun g' okv iv wr => ∃ i : Nat, iv = .int .i64 i ∧ i + g' = k ∧ okv = .bool (nrB P.mean && (P.ts.take i).all nrT) ∧ NearW w wr #[.string nm, .bool g, .slice A n1 c, .slice A' n2 c', .slice B k d] M #[.bool false, .slice E 16 ce, .slice E' 1 ce'] #[.bool false, .slice E' 1 ce', .slice E 16 ce] B k d P.ts E ce E' ce')
  case atStart => exact ⟨0, rfl, by omega, by simp, HN3.out⟩
  case round =>
    obtain ⟨i, rfl, hi, rfl, hN⟩ := hrel
    have KK := Lib.hid hN
    clear hN HN3
    by_cases hin : i < k
    · obtain ⟨b, o, rfl, hcel⟩ := KK.out.2.2.2.2.1.cell (by omega)
      have hil : i < P.ts.length := by rw [HL.out]; exact hin
      obtain ⟨tnm, A1, c1, A1', c1', A2, c2, A2', c2', ⟨q0, q1, q2, q3, q4, q5, q6, q7, q8⟩, hR1, hR2⟩ := tide_cells (hcel i hil)
      have HAT := Lib.hid (all_take nrT P.ts i hil)
      have HTF := Lib.hid (HF.out.2 _ (List.getElem_mem hil))
      have HR1 := Lib.hid hR1
      have HR2 := Lib.hid hR2
      clear hR1 hR2 hcel
      have HNT : Hid (nrT P.ts[i] = (nrB P.ts[i].re && nrB P.ts[i].im)) := rfl
      generalize hT : P.ts[i] = T at *
      clear hT
      obtain ⟨W3, hW3⟩ : ∃ x, wr.alloc (.cells #[.string tnm, .int .i32 T.far, .int .i32 T.near, .bool (rneg T.re), .slice A1 (wl (rnum T.re)) c1, .slice A1' (wl T.re.den) c1', .bool (rneg T.im), .slice A2 (wl (rnum T.im)) c2, .slice A2' (wl T.im.den) c2'] 85) = x := ⟨_, rfl⟩
      have hb3 : Below wr.heap.size wr W3 := by rw [← hW3]; exact (Below.refl _ _).alloc (Nat.le_refl _) _
      have hq3 : W3.heap[wr.heap.size]? = some (.cells #[.string tnm, .int .i32 T.far, .int .i32 T.near, .bool (rneg T.re), .slice A1 (wl (rnum T.re)) c1, .slice A1' (wl T.re.den) c1', .bool (rneg T.im), .slice A2 (wl (rnum T.im)) c2, .slice A2' (wl T.im.den) c2'] 85) := by rw [← hW3]; exact heap_alloc_new wr _
      have H3 := Lib.hid (And.intro hb3 (And.intro hq3 (KK.out.step hb3)))
      clear hb3 hq3
      cases hok : (nrB P.mean && (P.ts.take i).all nrT)
      · have HE : Hid ((nrB P.mean && (P.ts.take (i + 1)).all nrT) = false) := by show _ = _; rw [HAT.out, ← Bool.and_assoc, hok]; rfl
        clear hok
        go_wp2_with fail
        go_roundg (k - (i + 1))
        case measure => omega
        case rel => exact ⟨i + 1, by simp, by omega, by rw [HE.out], H3.out.2.2⟩
      · have HE : Hid ((nrB P.mean && (P.ts.take (i + 1)).all nrT) = (nrB T.re && nrB T.im)) := by show _ = _; rw [HAT.out, ← Bool.and_assoc, hok, HNT.out]; rfl
        clear hok
        go_upto_region 6 with fail
        have HW3 := Lib.hid hW3
        clear hW3 q0 q1 q2 q3 q4 q5 q6 q7 q8
        obtain ⟨q0, q1, q2, q3, q4, q5, q6, q7, q8⟩ := cell9 H3.out.2.1
        obtain ⟨r0, r1, r2, r3, r4, r5⟩ := cell3 H3.out.2.2.2.2.1
        obtain ⟨s0, s1, s2, s3, s4, s5⟩ := cell3 H3.out.2.2.2.2.2.1
        go_wp2_with fail
        refine (height_reached W3 (HR1.out W3 H3.out.1) HTF.out.1 H3.out.2.2.2.2.2.2.2).mono ?_
        rintro e w4 ⟨rfl, hB4⟩
        have H4 := Lib.hid (And.intro (bel_step H3.out.1 hB4) (And.intro (blk_below hB4 H3.out.2.1) (H3.out.2.2.step hB4)))
        clear q0 q1 q2 q3 q4 q5 q6 q7 q8 r0 r1 r2 r3 r4 r5 s0 s1 s2 s3 s4 s5 hB4
        cases hre : nrB T.re
        · have HRE := Lib.hid hre
          clear hre
          go_wp2_with fail
          go_roundg (k - (i + 1))
          case measure => omega
          case rel => exact ⟨i + 1, by simp, by omega, by rw [HE.out, HRE.out]; rfl, H4.out.2.2⟩
        · have HRE := Lib.hid hre
          clear hre
          obtain ⟨q0, q1, q2, q3, q4, q5, q6, q7, q8⟩ := cell9 H4.out.2.1
          obtain ⟨r0, r1, r2, r3, r4, r5⟩ := cell3 H4.out.2.2.2.2.1
          obtain ⟨s0, s1, s2, s3, s4, s5⟩ := cell3 H4.out.2.2.2.2.2.1
          go_wp2_with fail
          refine (height_reached w4 (HR2.out w4 H4.out.1) HTF.out.2 H4.out.2.2.2.2.2.2.2).mono ?_
          rintro e w5 ⟨rfl, hB5⟩
          have H5 := Lib.hid (H4.out.2.2.step hB5)
          clear q0 q1 q2 q3 q4 q5 q6 q7 q8 r0 r1 r2 r3 r4 r5 s0 s1 s2 s3 s4 s5 hB5
          go_wp2_with fail
          go_roundg (k - (i + 1))
          case measure => omega
          case rel => exact ⟨i + 1, by simp, by omega, by rw [HE.out, HRE.out]; rfl, H5.out⟩
    · have hin2 : i = k := by omega
      have HE : Hid ((nrB P.mean && (P.ts.take i).all nrT) = P.near) := by show _ = _; rw [hin2, ← HL.out, List.take_length, HND.out]
      clear hi
      go_wp2_with fail
      go_ret
      exact ⟨ret_bool HE.out, KK.out.1⟩
end Go.Proofs.YtcbkijeonilcjaaGreat

/- The reference's wide. -/
namespace Go.Proofs.YtcbkijeonilcjaaGreat
open Go.RowKit

/-- the world of the loop: the port's box -/
def WideW (w wr : World) (pc : Array Value) (B : Option Addr) (k d : Nat) (ts : List Tn) : Prop :=
  Below w.heap.size w wr ∧ wr.heap[w.heap.size]? = some (.cells pc 27 (0, 0)) ∧ TnS wr B k d ts
theorem WideW.step {w wr w' : World} {pc : Array Value} {k d : Nat} {B : Option Addr} {ts : List Tn} (h : WideW w wr pc B k d ts) (hb : Below wr.heap.size wr w') : WideW w w' pc B k d ts :=
  ⟨bel_step h.1 hb, blk_below hb h.2.1, h.2.2.below hb⟩
set_option maxRecDepth 100000 in
set_option maxHeartbeats 2000000 in
theorem ref16_wide {v : Value} {P : Pn} (w : World) (h : PnR w v P) (hf : PFit P) :
    Calls Tryz.prog 62 #[v] w fun e w' => e = .returned (.bool P.near) ∧ Below w.heap.size w w' := by
  obtain ⟨nm, A, c, A', c', B, k, d, rfl, h1, h2, h3⟩ := h
  obtain ⟨W0, hW0⟩ : ∃ x, w.alloc (.cells #[.string nm, .bool (rneg P.mean), .slice A (wl (rnum P.mean)) c, .slice A' (wl P.mean.den) c', .slice B k d] 27) = x := ⟨_, rfl⟩
  have hb0 : Below w.heap.size w W0 := by rw [← hW0]; exact (Below.refl _ _).alloc (Nat.le_refl _) _
  have hk : W0.heap[w.heap.size]? = some (.cells #[.string nm, .bool (rneg P.mean), .slice A (wl (rnum P.mean)) c, .slice A' (wl P.mean.den) c', .slice B k d] 27) := by rw [← hW0]; exact heap_alloc_new w _
  have hRM : ∀ w', Below w.heap.size w w' → RtR w' (.agg #[.bool (rneg P.mean), .slice A (wl (rnum P.mean)) c, .slice A' (wl P.mean.den) c']) P.mean := fun w' hb => ⟨_, _, _, _, rfl, h1.below hb, h2.below hb⟩
  have HM := Lib.hid hRM
  have HA := Lib.hid (show WideW w W0 _ B k d P.ts from ⟨hb0, hk, h3.below hb0⟩)
  have hkb := h3.big.1
  have HL := Lib.hid h3.len
  have HF := Lib.hid hf
  have HND := Lib.hid (near_def P)
  clear hb0 hk h1 h2 h3 hRM hf
  generalize rneg P.mean = g at *
  generalize wl (rnum P.mean) = n1 at *
  generalize wl P.mean.den = n2 at *
  obtain ⟨z0, z1, z2, z3, z4⟩ := cell5 HA.out.2.1
  go_enter Tryz.func62, Tryz.ntmps62
  go_wp2_with fail
  have HW0 := Lib.hid hW0
  clear hW0
  refine (ref16_near W0 (HM.out W0 HA.out.1) HF.out.1).mono ?_
  rintro e w3 ⟨rfl, hB3⟩
  have HN3 := Lib.hid (HA.out.step hB3)
  clear z0 z1 z2 z3 z4 hB3 HA
  cases hm : nrB P.mean
  · have HE : Hid (P.near = false) := by show _ = _; rw [HND.out, hm]; rfl
    clear hm
    go_wp2_with fail
    go_ret
    exact ⟨ret_bool HE.out.symm, HN3.out.1⟩
  · have HMM := Lib.hid hm
    clear hm
    obtain ⟨z0, z1, z2, z3, z4⟩ := cell5 HN3.out.2.1
    go_wp2_with fail
    clear z0 z1 z2 z3 z4
    go_loopg [3] k (fun g' iv wr => ∃ i : Nat, iv = .int .i64 i ∧ i + g' = k ∧ (P.ts.take i).all nrT = true ∧ WideW w wr #[.string nm, .bool g, .slice A n1 c, .slice A' n2 c', .slice B k d] B k d P.ts)
    case atStart => exact ⟨0, rfl, by omega, by simp, HN3.out⟩
    case round =>
      obtain ⟨i, rfl, hi, hal, hN⟩ := hrel
      have KK := Lib.hid hN
      have HAL := Lib.hid hal
      clear hN HN3 hal
      obtain ⟨z0, z1, z2, z3, z4⟩ := cell5 KK.out.2.1
      by_cases hin : i < k
      · obtain ⟨b, o, rfl, hcel⟩ := KK.out.2.2.cell (by omega)
        have hil : i < P.ts.length := by rw [HL.out]; exact hin
        obtain ⟨tnm, A1, c1, A1', c1', A2, c2, A2', c2', ⟨q0, q1, q2, q3, q4, q5, q6, q7, q8⟩, hR1, hR2⟩ := tide_cells (hcel i hil)
        have HAT := Lib.hid (all_take nrT P.ts i hil)
        have HTF := Lib.hid (HF.out.2 _ (List.getElem_mem hil))
        have HTM := Lib.hid (List.getElem_mem hil)
        have HR1 := Lib.hid hR1
        have HR2 := Lib.hid hR2
        have HQ := Lib.hid (And.intro q6 (And.intro q7 q8))
        clear hR1 hR2 hcel
        have HNT : Hid (nrT P.ts[i] = (nrB P.ts[i].re && nrB P.ts[i].im)) := rfl
        generalize hT : P.ts[i] = T at *
        clear hT q0 q1 q2
        go_wp2_with fail
        refine (ref16_near wr (HR1.out wr (Below.refl _ _)) HTF.out.1).mono ?_
        rintro e w4 ⟨rfl, hB4⟩
        have hcc : ∀ {a : Addr} {v : Value}, wr.cell? a = some v → w4.cell? a = some v := fun {a v} e => by rw [hB4.cell (World.block_lt_of_cell? wr _ e)]; exact e
        have H4 := Lib.hid (And.intro hB4 (And.intro (KK.out.step hB4) (And.intro (hcc HQ.out.1) (And.intro (hcc HQ.out.2.1) (hcc HQ.out.2.2)))))
        clear z0 z1 z2 z3 z4 q3 q4 q5 q6 q7 q8 hB4 hcc
        cases hre : nrB T.re
        · have HE : Hid (P.near = false) := by
            show _ = _
            rw [HND.out]
            have : P.ts.all nrT = false := by
              rw [List.all_eq_false]
              exact ⟨T, HTM.out, by rw [HNT.out, hre]; simp⟩
            rw [this, Bool.and_false]
          clear hre
          go_wp2_with fail
          go_ret
          exact ⟨ret_bool HE.out.symm, H4.out.2.1.1⟩
        · have HRE := Lib.hid hre
          clear hre
          obtain ⟨z0, z1, z2, z3, z4⟩ := cell5 H4.out.2.1.2.1
          obtain ⟨q6, q7, q8⟩ := H4.out.2.2
          go_wp2_with fail
          refine (ref16_near w4 (HR2.out w4 H4.out.1) HTF.out.2).mono ?_
          rintro e w5 ⟨rfl, hB5⟩
          have H5 := Lib.hid (H4.out.2.1.step hB5)
          clear z0 z1 z2 z3 z4 q6 q7 q8 hB5
          cases him : nrB T.im
          · have HE : Hid (P.near = false) := by
              show _ = _
              rw [HND.out]
              have : P.ts.all nrT = false := by
                rw [List.all_eq_false]
                exact ⟨T, HTM.out, by rw [HNT.out, him]; simp⟩
              rw [this, Bool.and_false]
            clear him
            go_wp2_with fail
            go_ret
            exact ⟨ret_bool HE.out.symm, H5.out.1⟩
          · have HIM := Lib.hid him
            clear him
            go_wp2_with fail
            go_roundg (k - (i + 1))
            case measure => omega
            case rel => exact ⟨i + 1, by simp, by omega, by rw [HAT.out, HAL.out, HNT.out, HRE.out, HIM.out]; rfl, H5.out⟩
      · have hin2 : i = k := by omega
        have HE : Hid (P.near = true) := by show _ = _; have h1 := HAL.out; rw [hin2, ← HL.out, List.take_length] at h1; rw [HND.out, HMM.out, h1]; rfl
        clear hi
        go_wp2_with fail
        go_ret
        exact ⟨ret_bool HE.out.symm, KK.out.1⟩
end Go.Proofs.YtcbkijeonilcjaaGreat

/- The keys of port.Check's two sets. -/
namespace Go.Proofs.YtcbkijeonilcjaaGreat
open Go.RowKit Go.Maps

theorem rotKeyUnd : Tryz.prog.underlying 58 = some (.struct (Tryz.prog.fieldsOf 58)) := by kernel_rfl
theorem strUnd : Tryz.prog.underlying 9 = some .string := by kernel_rfl
theorem lawStr : Keyed Tryz.prog 9 := string_keyed strUnd
theorem rotLaid : laidOutB Tryz.prog = true := by kernel_rfl
theorem rotRow : (58 : TypeId) < Tryz.prog.types.size := of_decide_eq_true (by kernel_rfl)
theorem rotWide : (match Tryz.prog.underlying 58 with | some (.array _ _) | some (.struct _) => true | _ => false) = true := by rw [rotKeyUnd]
set_option maxRecDepth 100000 in
theorem lawRot0 : WideMaps.KeyLaw Tryz.prog 58 := deep_law_laid rotLaid (m := 2) (by omega) rotRow (by kernel_rfl) rotWide
theorem lawRot : Keyed Tryz.prog 58 := Keyed.of_law lawRot0
theorem cellsRot : Tryz.prog.cellsOf 58 = 2 := by kernel_rfl
theorem formedRot {a b : Value} : (Value.agg #[a, b]).formed Tryz.prog 58 = true := by simp [Value.formed, cellsRot]
theorem rotKey {f n : Int} (hf : -2147483648 ≤ f ∧ f ≤ 2147483647) (hn : -2147483648 ≤ n ∧ n ≤ 2147483647) : ∃ kl, keyOf Tryz.prog 58 (.agg #[.int .i32 f, .int .i32 n]) = some kl := by
  have hs : ∃ s, Tryz.prog.types.size + 1 = s + 2 := ⟨_, rfl⟩
  obtain ⟨s, hs⟩ := hs
  unfold keyOf
  rw [rotKeyUnd]
  simp only [formedRot]
  rw [hs]
  have hkt : Tryz.prog.keyType 58 = true := by kernel_rfl
  rw [hkt]
  have c21 : Tryz.prog.cellsOf 21 = 1 := by kernel_rfl
  have hwf : (Lit.int .i32 f).wf = true := WalkArith.wf_i32 hf
  have hwn : (Lit.int .i32 n).wf = true := WalkArith.wf_i32 hn
  simp [Program.keyLits, Value.cells, c21, cellsRot, hwf, hwn]
/-- a rotor's key -/
noncomputable def rk (f n : Int) : Lit := (keyOf Tryz.prog 58 (.agg #[.int .i32 f, .int .i32 n])).getD (.bool false)
theorem rk_key {f n : Int} (hf : -2147483648 ≤ f ∧ f ≤ 2147483647) (hn : -2147483648 ≤ n ∧ n ≤ 2147483647) : keyOf Tryz.prog 58 (.agg #[.int .i32 f, .int .i32 n]) = some (rk f n) := by
  obtain ⟨kl, h⟩ := rotKey hf hn
  unfold rk
  rw [h]; rfl
/-- a name's key -/
def nk (s : ByteArray) : Lit := .string s.data.toList
theorem nk_key {s : ByteArray} (hs : s.size ≤ maxLen) : keyOf Tryz.prog 9 (.string s) = some (nk s) := WideMaps.keyOf_string_mk strUnd hs
theorem nk_inj {s t : ByteArray} : nk s = nk t ↔ s = t := by
  constructor
  · intro h
    unfold nk at h
    injection h with h
    exact ByteArray.ext (Array.toList_inj.1 h)
  · rintro rfl; rfl
set_option maxRecDepth 100000 in
theorem rk_inj {f n f' n' : Int} (hf : -2147483648 ≤ f ∧ f ≤ 2147483647) (hn : -2147483648 ≤ n ∧ n ≤ 2147483647) (hf' : -2147483648 ≤ f' ∧ f' ≤ 2147483647) (hn' : -2147483648 ≤ n' ∧ n' ≤ 2147483647) : rk f n = rk f' n' ↔ f = f' ∧ n = n' := by
  constructor
  · intro h
    have h1 := rk_key hf hn
    rw [h] at h1
    have h2 := lawRot.inj h1 (rk_key hf' hn')
    simp at h2
    exact h2
  · rintro ⟨rfl, rfl⟩; rfl
set_option maxRecDepth 100000 in
theorem rk_isKey {f n : Int} (hf : -2147483648 ≤ f ∧ f ≤ 2147483647) (hn : -2147483648 ≤ n ∧ n ≤ 2147483647) : WideAt.IsKeyLit (rk f n) := lawRot.key (rk_key hf hn)
theorem any_keys {α : Type} (l : List α) (k : α → Lit) (p : α → Bool) (x : Lit) (hx : WideAt.IsKeyLit x) (h : ∀ a ∈ l, (k a = x ↔ p a = true)) : (l.map k).any (fun y => y.sameKey x) = l.any p := by
  induction l with
  | nil => rfl
  | cons a l ih =>
    rw [List.map_cons, List.any_cons, List.any_cons, ih fun b hb => h b (by simp [hb])]
    congr 1
    rw [Bool.eq_iff_iff, WideAt.sameKey_iff hx]
    exact h a (by simp)
noncomputable def namesD (ts : List Td) : DataW Unit := setOf (.agg []) (ts.map fun T => nk T.nm)
noncomputable def rotsD (ts : List Td) : DataW Unit := setOf (.agg []) (ts.map fun T => rk T.far T.near)
def Td.rng (T : Td) : Prop := (-2147483648 ≤ T.far ∧ T.far ≤ 2147483647) ∧ (-2147483648 ≤ T.near ∧ T.near ≤ 2147483647)
set_option maxRecDepth 100000 in
theorem has_namesD (ts : List Td) (s : ByteArray) : Maps.has (namesD ts) (nk s) = ts.any (fun T => decide (T.nm = s)) := by
  unfold namesD
  rw [has_setOf _ _ _ (fun y hy => by obtain ⟨_, _, rfl⟩ := List.mem_map.1 hy; trivial)]
  exact any_keys ts _ _ _ trivial fun a _ => by rw [nk_inj]; simp
set_option maxRecDepth 100000 in
theorem has_rotsD (ts : List Td) (T : Td) (h : ∀ S ∈ ts, S.rng) (hT : T.rng) : Maps.has (rotsD ts) (rk T.far T.near) = ts.any (fun S => decide (S.far = T.far) && decide (S.near = T.near)) := by
  unfold rotsD
  rw [has_setOf _ _ _ (fun y hy => by obtain ⟨S, hS, rfl⟩ := List.mem_map.1 hy; exact rk_isKey (h S hS).1 (h S hS).2)]
  exact any_keys ts _ _ _ (rk_isKey hT.1 hT.2) fun a ha => by rw [rk_inj (h a ha).1 (h a ha).2 hT.1 hT.2]; simp
theorem there_split (ts : List Td) (s : ByteArray) (f n : Int) : thereB ts s f n = (ts.any (fun T => decide (T.nm = s)) || ts.any (fun S => decide (S.far = f) && decide (S.near = n))) := by
  unfold thereB Td.like
  induction ts with
  | nil => rfl
  | cons a l ih =>
    rw [List.any_cons, List.any_cons, List.any_cons, ih]
    cases decide (a.nm = s) <;> cases (decide (a.far = f) && decide (a.near = n)) <;> simp
theorem namesD_snoc (ts : List Td) (T : Td) : namesD (ts ++ [T]) = (namesD ts).put (nk T.nm) (.agg []) := by
  unfold namesD
  rw [List.map_append, List.map_singleton, setOf_snoc]
theorem rotsD_snoc (ts : List Td) (T : Td) : rotsD (ts ++ [T]) = (rotsD ts).put (rk T.far T.near) (.agg []) := by
  unfold rotsD
  rw [List.map_append, List.map_singleton, setOf_snoc]
theorem err_rng {T : Td} (h : T.err = 0) : T.rng := by
  unfold Td.err tideE at h
  split at h
  · have h1 : rotE T.far T.near = 0 := by
      unfold chk2 at h
      split at h
      · assumption
      · exact absurd h (by assumption)
    unfold rotE at h1
    split at h1
    · rename_i hr
      have b1 := hr.1
      have b2 := hr.2.1
      have b3 := hr.2.2.1
      have b4 := hr.2.2.2.1
      exact ⟨⟨by omega, by omega⟩, ⟨by omega, by omega⟩⟩
    · omega
  · omega
theorem zeroUnit (w : World) : (zeroValue 160).run Tryz.prog w = .ok (.agg #[]) w := by kernel_rfl
theorem ownsMap_below {P : Program} {k : TypeId} {R : Value → Option (DataW Unit × List MemPlace)} {w w' : World} {b n : Nat} {D : DataW Unit} (h : w.ownsMap P k R b n D) (hB : Below w.heap.size w w') : w'.ownsMap P k R b n D := by
  obtain ⟨es, clock, hb, r⟩ := h
  exact ⟨es, clock, blk_below hB hb, r⟩
theorem namesD_nil : namesD [] = .map [] := rfl
theorem rotsD_nil : rotsD [] = .map [] := rfl
theorem turned_cell {w w' : World} {b : Nat} (h : w.mapTurned w' b) {a : Addr} {v : Value} (hc : w.cell? a = some v) : w'.cell? a = some v := by
  have hne : some a.block ≠ some b := by
    intro e
    injection e with e
    obtain ⟨es, clock, _, _, hb, _⟩ := h
    rw [← e] at hb
    unfold World.cell? at hc
    rw [hb] at hc
    simp at hc
  rw [h.grown.cell_far a (World.block_lt_of_cell? _ _ hc) hne]; exact hc
theorem turned_heap {w w' : World} {b i : Nat} {o : Obj} (h : w.mapTurned w' b) (hb : w.heap[i]? = some o) (hne : i ≠ b) : w'.heap[i]? = some o :=
  (h.grown.block i (heap_lt hb) (by simpa using hne)).trans hb
theorem Rd.keepc {w w1 : World} {A : Option Addr} {n c : Nat} {l : List Nat} (h : Rd w A n c l) (k : ∀ {a : Addr} {v : Value}, w.cell? a = some v → w1.cell? a = some v) : Rd w1 A n c l :=
  ⟨h.len, h.lim, h.cap, h.big, fun hn => by
    obtain ⟨b, o, e, hc⟩ := h.cell hn
    exact ⟨b, o, e, fun j hj => k (hc j hj)⟩⟩
theorem TdC.keepc {w w1 : World} {b o : Nat} {T : Td} (h : TdC w b o T) (k : ∀ {a : Addr} {v : Value}, w.cell? a = some v → w1.cell? a = some v) : TdC w1 b o T := by
  obtain ⟨A1, n1, c1, A1', n1', c1', A2, n2, c2, A2', n2', c2', ⟨h0, h1, h2, h3, h4, h5, h6, h7, h8⟩, hb0, r1, r2, r3, r4⟩ := h
  exact ⟨A1, n1, c1, A1', n1', c1', A2, n2, c2, A2', n2', c2', ⟨k h0, k h1, k h2, k h3, k h4, k h5, k h6, k h7, k h8⟩, hb0, r1.keepc k, r2.keepc k, r3.keepc k, r4.keepc k⟩
theorem TsR.keepc {w w1 : World} {A : Option Addr} {n c : Nat} {ts : List Td} (h : TsR w A n c ts) (k : ∀ {a : Addr} {v : Value}, w.cell? a = some v → w1.cell? a = some v) : TsR w1 A n c ts :=
  ⟨h.len, h.cap, h.big, fun hn => by
    obtain ⟨b, o, e, hc⟩ := h.cell hn
    exact ⟨b, o, e, fun j hj => (hc j hj).keepc k⟩⟩
section
variable {P : Program} (w : World) {o : Oper} {a : Act} {Q : Exit → Act → World → Prop}
theorem wp_mapUpdate_own {K : Act → World → Prop} (m x v : Operand) (t : TypeId) (hop : o.op = Op.mapUpdate t m x v)
    (k e : TypeId) (Kk : Keyed P k) (ht : P.underlying t = some (.map k e)) (R : Value → Option (DataW Unit × List MemPlace)) (b n : Nat) (D : DataW Unit)
    (hm : a.eval m = .map (some b)) (hown : w.ownsMap P k R b n D) (hn : n < maxLen) (key val : Value) (kl : Lit) (hx : a.eval x = key) (hv : a.eval v = val) (hkey : keyOf P k key = some kl)
    (d : DataW Unit) (ps : List MemPlace) (hval : R val = some (d, ps))
    (hK : ∀ w', w'.ownsMap P k R b (n + 1) (D.put kl d) → w.mapTurned w' b → K (a.put o.dst undef) w') : o.wp P a w K Q := by
  obtain ⟨w', hrun, r1, r2⟩ := hown.store Kk ht hn hkey hval
  unfold Oper.wp
  simp [execOp, hop, hm, hx, hv, hrun, Result.andThen]
  exact hK w' r1 r2
theorem step_mapUpdate_own {ops : Array Oper} {K : Act → World → Prop} {E : Prop} (hgd : o.guard = none) (m x v : Operand) (t : TypeId) (hop : o.op = Op.mapUpdate t m x v)
    (k e : TypeId) (Kk : Keyed P k) (ht : P.underlying t = some (.map k e)) (R : Value → Option (DataW Unit × List MemPlace)) (b n : Nat) (D : DataW Unit)
    (hm : a.eval m = .map (some b)) (hown : w.ownsMap P k R b n D) (hn : n < maxLen) (key val : Value) (kl : Lit) (hx : a.eval x = key) (hv : a.eval v = val) (hkey : keyOf P k key = some kl)
    (d : DataW Unit) (ps : List MemPlace) (hval : R val = some (d, ps))
    (hK : ∀ w', w'.ownsMap P k R b (n + 1) (D.put kl d) → w.mapTurned w' b → K (a.put o.dst undef) w') :
    if Region.wanted o (yielded ops a.tmps) = true then Oper.wp P o a w K Q else E := by
  have hw : Region.wanted o (yielded ops a.tmps) = true := by simp [Region.wanted, hgd]
  rw [if_pos hw]
  exact wp_mapUpdate_own w m x v t hop k e Kk ht R b n D hm hown hn key val kl hx hv hkey d ps hval hK
end
end Go.Proofs.YtcbkijeonilcjaaGreat
