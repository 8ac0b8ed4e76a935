/- The reference's check of a port. -/
import Derived.Test.YtcbkijeonilcjaaGreatHC24
import Derived.ProofKit
import Derived.SizedLaws
import Derived.Deep.Slices
namespace Go.Proofs.YtcbkijeonilcjaaGreat
open Go.RowKit

/-- a port as it was handed in -/
structure Pd where
  nm : ByteArray
  g : Bool
  l : List Nat
  l' : List Nat
  ts : List Td
def tidesG (ts : List Td) (i : Nat) : Nat → Int × Int
  | 0 => (0, 0)
  | k + 1 => match ts[i]? with
    | none => (0, 0)
    | some T => if T.err = 0 then (if thereB (ts.take i) T.nm T.far T.near = true then (5, i) else tidesG ts (i + 1) k) else (T.err, i)
/-- why a port may not be, and where -/
def Pd.fault (p : Pd) : Int × Int :=
  if nameB p.nm = true then (if chkR p.g p.l p.l' = 0 then (if p.ts.length ≤ 24 then tidesG p.ts 0 p.ts.length else (3, -1)) else (chkR p.g p.l p.l', -1)) else (4, -1)
def PdR (w : World) (v : Value) (p : Pd) : Prop := p.nm.size ≤ maxLen ∧ ∃ A n c A' n' c' B k d, v = .agg #[.string p.nm, .bool p.g, .slice A n c, .slice A' n' c', .slice B k d] ∧ Rd w A n c p.l ∧ Rd w A' n' c' p.l' ∧ TsR w B k d p.ts
theorem PdR.below {w w1 : World} {v : Value} {p : Pd} (h : PdR w v p) (hb : Below w.heap.size w w1) : PdR w1 v p := by
  obtain ⟨h0, A, n, c, A', n', c', B, k, d, e, h1, h2, h3⟩ := h
  exact ⟨h0, A, n, c, A', n', c', B, k, d, e, h1.below hb, h2.below hb, h3.below hb⟩
theorem cell5 {w : World} {b : Nat} {a0 a1 a2 a3 a4 : Value} {T : TypeId} (h : w.heap[b]? = some (.cells #[a0, a1, a2, a3, a4] T)) :
    w.cell? ⟨b, 0, none⟩ = some a0 ∧ w.cell? ⟨b, 1, none⟩ = some a1 ∧ w.cell? ⟨b, 2, none⟩ = some a2 ∧ w.cell? ⟨b, 3, none⟩ = some a3 ∧ w.cell? ⟨b, 4, none⟩ = some a4 := by
  refine ⟨?_, ?_, ?_, ?_, ?_⟩ <;> simp [World.cell?, h]
theorem cell9o {w : World} {b o : Nat} {T : Td} (h : TdC w b o T) : ∃ A1 n1 c1 A1' n1' c1' A2 n2 c2 A2' n2' c2',
  (w.cell? ⟨b, o, none⟩ = some (.string T.nm) ∧ w.cell? ⟨b, o + 1, none⟩ = some (.int .i32 T.far) ∧ w.cell? ⟨b, o + 2, none⟩ = some (.int .i32 T.near) ∧ w.cell? ⟨b, o + 3, none⟩ = some (.bool T.g1) ∧ w.cell? ⟨b, o + 4, none⟩ = some (.slice A1 n1 c1) ∧ w.cell? ⟨b, o + 5, none⟩ = some (.slice A1' n1' c1') ∧ w.cell? ⟨b, o + 6, none⟩ = some (.bool T.g2) ∧ w.cell? ⟨b, o + 7, none⟩ = some (.slice A2 n2 c2) ∧ w.cell? ⟨b, o + 8, none⟩ = some (.slice A2' n2' c2')) ∧ TdV w T A1 n1 c1 A1' n1' c1' A2 n2 c2 A2' n2' c2' := h
theorem below_set2 {B b : Nat} {a w : World} (h : Below B a w) (hb : B ≤ b) (x y : Value) : Below B a ((w.setCell ⟨b, 0, none⟩ x).setCell ⟨b, 1, none⟩ y) := (h.setCell hb _).setCell hb _

set_option maxRecDepth 100000 in
set_option maxHeartbeats 2000000 in
theorem ref14_Check {v : Value} {p : Pd} (w : World) (h : PdR w v p) :
    Calls Tryz.prog 61 #[v] w fun e w' => e = .returned (.agg #[.int .i64 p.fault.1, .int .i64 p.fault.2]) ∧ Below w.heap.size w w' := by
  obtain ⟨h0, A, n, c, A', n', c', B, k, d, rfl, h1, h2, h3⟩ := h
  obtain ⟨W0, hW0⟩ : ∃ x, (w.alloc (.cells #[.string p.nm, .bool p.g, .slice A n c, .slice A' n' c', .slice B k d] 27)).alloc (.cells #[.int .i64 0, .int .i64 0] 101) = x := ⟨_, rfl⟩
  have hb0 : Below w.heap.size w W0 := by rw [← hW0]; exact ((Below.refl _ _).alloc (Nat.le_refl _) _).alloc (by simp) _
  have hk : W0.heap[w.heap.size]? = some (.cells #[.string p.nm, .bool p.g, .slice A n c, .slice A' n' c', .slice B k d] 27) := by rw [← hW0]; exact alloc_keep (heap_alloc_new w _) _
  have hf : W0.heap[w.heap.size + 1]? = some (.cells #[.int .i64 0, .int .i64 0] 101) := by rw [← hW0]; exact heap_new _ (by simp)
  obtain ⟨z0, z1, z2, z3, z4⟩ := cell5 hk
  obtain ⟨f0, f1, f2, f3⟩ := cell2 hf
  have HA := Lib.hid (And.intro hb0 (And.intro hk (And.intro hf (And.intro (h1.below hb0) (And.intro (h2.below hb0) (h3.below hb0))))))
  have HS := Lib.hid (And.intro h0 h3.len)
  have hkb := h3.big.1
  clear hb0 hk hf h1 h2 h3 h0
  obtain ⟨F, hF⟩ : ∃ F, p.fault = F := ⟨_, rfl⟩
  rw [hF]
  go_enter Tryz.func61, Tryz.ntmps61
  go_wp2_with fail
  have HW0 := Lib.hid hW0
  clear hW0
  refine (ref13_Name p.nm _ HS.out.1).mono ?_
  rintro e1 W0' ⟨rfl, rfl⟩
  cases hnm : nameB p.nm
  · have HE : Hid (F = (4, -1)) := by show F = _; rw [← hF]; unfold Pd.fault; rw [if_neg (by simp [hnm])]
    clear hnm hF
    go_wp2_with fail
    exact bodyPost_ret (v := .agg #[.int .i64 4, .int .i64 (-1)]) (by simp [results, Tryz.results61, go_sem, *]) rfl ⟨by rw [HE.out], below_set2 HA.out.1 (by omega) _ _⟩
  · have HN : Hid (F = if chkR p.g p.l p.l' = 0 then (if p.ts.length ≤ 24 then tidesG p.ts 0 p.ts.length else (3, -1)) else (chkR p.g p.l p.l', -1)) := by show F = _; rw [← hF]; unfold Pd.fault; rw [if_pos hnm]
    clear hnm hF
    go_wp2_with fail
    refine (ref03_Check p.g A A' n n' c c' p.l p.l' _ HA.out.2.2.2.1 HA.out.2.2.2.2.1).mono ?_
    rintro e1 w1 ⟨rfl, hB1⟩
    obtain ⟨W1, hW1⟩ : ∃ W1, W1 = w1 := ⟨_, rfl⟩
    clear z0 z1 z2 z3 z4 f0 f1 f2 f3
    have HK := Lib.hid (And.intro (bel_step HA.out.1 hB1) (And.intro (blk_below hB1 HA.out.2.1) (And.intro (blk_below hB1 HA.out.2.2.1) (HA.out.2.2.2.2.2.below hB1))))
    obtain ⟨z0, z1, z2, z3, z4⟩ := cell5 HK.out.2.1
    obtain ⟨f0, f1, f2, f3⟩ := cell2 HK.out.2.2.1
    clear HA hB1 hW1
    by_cases hc : chkR p.g p.l p.l' = 0
    · rw [hc]
      have HM : Hid (F = if p.ts.length ≤ 24 then tidesG p.ts 0 p.ts.length else (3, -1)) := by show F = _; rw [HN.out, if_pos hc]
      clear hc HN
      by_cases hl : k ≤ 24
      · have HP : Hid (tidesG p.ts 0 k = F) := by show _ = F; rw [HM.out, HS.out.2, if_pos hl]
        clear HM
        go_wp2_with fail
        clear z0 z1 z2 z3 z4 f0 f1 f2 f3
        go_loopg [5] k (fun g iv wr => ∃ i : Nat, iv = .int .i64 i ∧ i + g = k ∧ tidesG p.ts i g = F ∧ Below w.heap.size w wr ∧ wr.heap[w.heap.size]? = some (.cells #[.string p.nm, .bool p.g, .slice A n c, .slice A' n' c', .slice B k d] 27) ∧ wr.heap[w.heap.size + 1]? = some (.cells #[.int .i64 0, .int .i64 0] 101) ∧ TsR wr B k d p.ts)
        case atStart => exact ⟨0, rfl, by omega, HP.out, HK.out⟩
        case round =>
          obtain ⟨i, rfl, hi, hth, hk0, hk1, hk2, hts⟩ := hrel
          have HT := Lib.hid hth
          have KK := Lib.hid (And.intro hk0 (And.intro hk1 (And.intro hk2 hts)))
          clear hth hk0 hk1 hk2 hts HP HK
          obtain ⟨z0, z1, z2, z3, z4⟩ := cell5 KK.out.2.1
          obtain ⟨f0, f1, f2, f3⟩ := cell2 KK.out.2.2.1
          by_cases hin : i < k
          · obtain ⟨b, o, rfl, hcel⟩ := KK.out.2.2.2.cell (by omega)
            have hil : i < p.ts.length := by rw [HS.out.2]; exact hin
            obtain ⟨A1, n1, c1, A1', n1', c1', A2, n2, c2, A2', n2', c2', ⟨q0, q1, q2, q3, q4, q5, q6, q7, q8⟩, hV⟩ := hcel i hil
            have HV := Lib.hid hV
            have HC := Lib.hid hcel
            clear hV hcel
            have hg1 : gk = (gk - 1) + 1 := by omega
            have HT2 : Hid ((if p.ts[i].err = 0 then (if thereB (p.ts.take i) p.ts[i].nm p.ts[i].far p.ts[i].near = true then (5, (i : Int)) else tidesG p.ts (i + 1) (gk - 1)) else (p.ts[i].err, (i : Int))) = F) := by
              have := HT.out
              rw [hg1] at this
              unfold tidesG at this
              rw [List.getElem?_eq_getElem hil] at this
              exact this
            clear HT hg1
            generalize hT : p.ts[i] = T at *
            clear hT
            go_wp2_with fail
            refine (ref13_Check T.nm T.far T.near wr HV.out.1.1 HV.out.1.2.1 HV.out.1.2.2 HV.out.2.1 HV.out.2.2.1 HV.out.2.2.2.1 HV.out.2.2.2.2).mono ?_
            rintro e1 w2 ⟨rfl, hB2⟩
            rw [show tideE T.nm T.far T.near (chk2 (chkR T.g1 T.l1 T.l1') (chkR T.g2 T.l2 T.l2')) = T.err from rfl]
            have KK2 := Lib.hid (And.intro (bel_step KK.out.1 hB2) (And.intro (blk_below hB2 KK.out.2.1) (And.intro (blk_below hB2 KK.out.2.2.1) (KK.out.2.2.2.below hB2))))
            clear z0 z1 z2 z3 z4 f0 f1 f2 f3
            obtain ⟨z0, z1, z2, z3, z4⟩ := cell5 KK2.out.2.1
            obtain ⟨f0, f1, f2, f3⟩ := cell2 KK2.out.2.2.1
            by_cases he : T.err = 0
            · rw [he]
              have HT3 : Hid ((if thereB (p.ts.take i) T.nm T.far T.near = true then (5, (i : Int)) else tidesG p.ts (i + 1) (gk - 1)) = F) := by
                have := HT2.out
                rw [if_pos he] at this
                exact this
              have hcc : ∀ {a : Addr} {v : Value}, wr.cell? a = some v → w2.cell? a = some v := fun {a v} e => by rw [hB2.cell (World.block_lt_of_cell? wr _ e)]; exact e
              have hq := And.intro z4 (And.intro (hcc q0) (And.intro (hcc q1) (And.intro (hcc q2) (And.intro (hcc q3) (And.intro (hcc q4) (And.intro (hcc q5) (And.intro (hcc q6) (And.intro (hcc q7) (hcc q8)))))))))
              clear hcc he HT2
              go_upto_region 15 with fail
              clear q0 q1 q2 q3 q4 q5 q6 q7 q8
              have hS : ∀ w', Below w2.heap.size w2 w' → (w'.cell? ⟨w.heap.size, 4, none⟩ = some (.slice (some ⟨b, o, none⟩) k d) ∧ (w'.cell? ⟨b, o + i * 9, none⟩ = some (.string T.nm) ∧ w'.cell? ⟨b, o + i * 9 + 1, none⟩ = some (.int .i32 T.far) ∧ w'.cell? ⟨b, o + i * 9 + 2, none⟩ = some (.int .i32 T.near) ∧ w'.cell? ⟨b, o + i * 9 + 3, none⟩ = some (.bool T.g1) ∧ w'.cell? ⟨b, o + i * 9 + 4, none⟩ = some (.slice A1 n1 c1) ∧ w'.cell? ⟨b, o + i * 9 + 5, none⟩ = some (.slice A1' n1' c1') ∧ w'.cell? ⟨b, o + i * 9 + 6, none⟩ = some (.bool T.g2) ∧ w'.cell? ⟨b, o + i * 9 + 7, none⟩ = some (.slice A2 n2 c2) ∧ w'.cell? ⟨b, o + i * 9 + 8, none⟩ = some (.slice A2' n2' c2'))) := fun w' hB => by
                have hcc : ∀ {a : Addr} {v : Value}, w2.cell? a = some v → w'.cell? a = some v := fun {a v} e => by rw [hB.cell (World.block_lt_of_cell? w2 _ e)]; exact e
                obtain ⟨x0, x1, x2, x3, x4, x5, x6, x7, x8, x9⟩ := hq
                exact ⟨hcc x0, hcc x1, hcc x2, hcc x3, hcc x4, hcc x5, hcc x6, hcc x7, hcc x8, hcc x9⟩
              have HQ := Lib.hid hq
              have HSS := Lib.hid hS
              clear hq hS
              have hBv : True := trivial
              have hik : i ≤ k := by omega
              have hkd : k ≤ d := KK2.out.2.2.2.cap
              have hi1 : (0 : Int) ≤ (i : Int) := by omega
              have hi2 : (i : Int) ≤ (d : Int) := by omega
              have hi3 : (i : Int) ≤ (k : Int) := by omega
              have HTK := Lib.hid (KK2.out.2.2.2.take i hik)
              go_cut [51] from 24 to 53 (fun bv wx => bv = .bool (thereB (p.ts.take i) T.nm T.far T.near) ∧ Below w2.heap.size w2 wx)
              case first =>
                go_region_held3 (fun w' => w'.cell? ⟨w.heap.size, 4, none⟩ = some (.slice (some ⟨b, o, none⟩) k d) ∧ (w'.cell? ⟨b, o + i * 9, none⟩ = some (.string T.nm) ∧ w'.cell? ⟨b, o + i * 9 + 1, none⟩ = some (.int .i32 T.far) ∧ w'.cell? ⟨b, o + i * 9 + 2, none⟩ = some (.int .i32 T.near) ∧ w'.cell? ⟨b, o + i * 9 + 3, none⟩ = some (.bool T.g1) ∧ w'.cell? ⟨b, o + i * 9 + 4, none⟩ = some (.slice A1 n1 c1) ∧ w'.cell? ⟨b, o + i * 9 + 5, none⟩ = some (.slice A1' n1' c1') ∧ w'.cell? ⟨b, o + i * 9 + 6, none⟩ = some (.bool T.g2) ∧ w'.cell? ⟨b, o + i * 9 + 7, none⟩ = some (.slice A2 n2 c2) ∧ w'.cell? ⟨b, o + i * 9 + 8, none⟩ = some (.slice A2' n2' c2')))
                  ((refine HSS.out _ ?_; (focus ((repeat (first | with_reducible exact Below.refl _ _ | with_reducible exact hBv | with_reducible refine bel_drew ?_ | with_reducible refine bel_alloc ?_ _)); done))))
                  (first
                    | (go_at_call 131; (with_reducible refine (ref14_there T.nm T.far T.near _ _ _ _ _ _ _ (TsR.below HTK.out ?_)).mono ?_); (focus ((repeat (first | with_reducible exact Below.refl _ _ | with_reducible exact hBv | with_reducible refine bel_drew ?_ | with_reducible refine bel_alloc ?_ _)); done)); rintro e w3 ⟨rfl, hB3⟩; (refine imp_use (P := Below w2.heap.size w2 w3) ?_ ?_; (focus (refine bel_step ?_ hB3; (repeat (first | with_reducible exact Below.refl _ _ | with_reducible exact hBv | with_reducible refine bel_drew ?_ | with_reducible refine bel_alloc ?_ _)); done)); intro hBv)))
                all_goals
                  go_wp2_with fail
                  go_meet
                  case rel => exact ⟨rfl, hBv⟩
              case rest =>
                obtain ⟨rfl, hB4⟩ := hcut
                have KK3 := Lib.hid (And.intro (bel_step KK2.out.1 hB4) (And.intro (blk_below hB4 KK2.out.2.1) (And.intro (blk_below hB4 KK2.out.2.2.1) (KK2.out.2.2.2.below hB4))))
                clear z0 z1 z2 z3 z4 f0 f1 f2 f3 hB4
                obtain ⟨f0, f1, f2, f3⟩ := cell2 KK3.out.2.2.1
                cases htb : thereB (p.ts.take i) T.nm T.far T.near
                · have HE : Hid (tidesG p.ts (i + 1) (gk - 1) = F) := by
                    have := HT3.out
                    rw [if_neg (by simp [htb])] at this
                    exact this
                  clear HT3 htb
                  go_wp2_with fail
                  go_roundg (gk - 1)
                  case measure => omega
                  case rel => exact ⟨i + 1, by simp, by omega, HE.out, KK3.out⟩
                · have HE : Hid (F = (5, (i : Int))) := by
                    have := HT3.out
                    rw [if_pos htb] at this
                    exact this.symm
                  clear HT3 htb
                  go_wp2_with fail
                  exact bodyPost_ret (v := .agg #[.int .i64 5, .int .i64 (i : Int)]) (by simp [results, Tryz.results61, go_sem, *]) rfl ⟨by rw [HE.out], below_set2 KK3.out.1 (by omega) _ _⟩
            · have HE : Hid (F = (T.err, (i : Int))) := by
                have := HT2.out
                rw [if_neg he] at this
                exact this.symm
              have e9 : (T.err != 0) = true := by simp [he]
              clear HT2 he
              go_wp2_with fail
              exact bodyPost_ret (v := .agg #[.int .i64 T.err, .int .i64 (i : Int)]) (by simp [results, Tryz.results61, go_sem, *]) rfl ⟨by rw [HE.out], below_set2 KK2.out.1 (by omega) _ _⟩
          · have hin2 : i = k := by omega
            have hg0 : gk = 0 := by omega
            have HE : Hid (F = (0, 0)) := by show F = _; rw [← HT.out, hg0]; rfl
            subst hin2 hg0
            go_wp2_with fail
            exact bodyPost_ret (v := .agg #[.int .i64 0, .int .i64 0]) (by simp [results, Tryz.results61, go_sem, *]) rfl ⟨by rw [HE.out], below_set2 KK.out.1 (by omega) _ _⟩
      · have HE : Hid (F = (3, -1)) := by show F = _; rw [HM.out, HS.out.2, if_neg hl]
        clear HM
        go_wp2_with fail
        exact bodyPost_ret (v := .agg #[.int .i64 3, .int .i64 (-1)]) (by simp [results, Tryz.results61, go_sem, *]) rfl ⟨by rw [HE.out], below_set2 HK.out.1 (by omega) _ _⟩
    · have HE : Hid (F = (chkR p.g p.l p.l', -1)) := by show F = _; rw [HN.out, if_neg hc]
      have e9 : (chkR p.g p.l p.l' != 0) = true := by simp [hc]
      clear HN hc
      go_wp2_with fail
      exact bodyPost_ret (v := .agg #[.int .i64 (chkR p.g p.l p.l'), .int .i64 (-1)]) (by simp [results, Tryz.results61, go_sem, *]) rfl ⟨by rw [HE.out], below_set2 HK.out.1 (by omega) _ _⟩
end Go.Proofs.YtcbkijeonilcjaaGreat

/- The arguments of a statement, opened: words, fractions, constituents, a port. -/
namespace Go.Proofs.YtcbkijeonilcjaaGreat
open Go.ChangeShapes Go.WideShapes Go.ChangeAt Go.RowKit Go.Deep

theorem wtAll_mem {H : Type} {P : Program} {e : TypeId} {d : DataW H} {ds : List (DataW H)} (hd : d ∈ ds) : ∀ n ∈ d.weights P e, n ∈ DataW.weightsAll P e ds := by
  induction ds with
  | nil => simp at hd
  | cons x ds ih =>
    intro n hn
    simp only [DataW.weightsAll, List.mem_append]
    rcases List.mem_cons.1 hd with rfl | h
    · exact Or.inl hn
    · exact Or.inr (ih h n hn)
/-- each part of it is within the reach -/
def Szd {H : Type} (P : Program) (t : TypeId) (d : DataW H) : Prop := ∀ n ∈ d.weights P t, n ≤ reachBytes
theorem szd_struct {H : Type} {P : Program} {t : TypeId} {fs : Array Field} {parts : List (DataW H)} (hu : P.underlying t = some (.struct fs)) (h : Szd P t (.agg parts)) {j : Nat} {tj : TypeId} {dj : DataW H} (ht : (fs.toList.map (·.type))[j]? = some tj) (hd : parts[j]? = some dj) : Szd P tj dj :=
  fun n hn => h n (by simp only [DataW.weights, hu]; exact DataW.weights_mem_each ht hd n hn)
theorem szd_slice {H : Type} {P : Program} {t e : TypeId} {elems spare : List (DataW H)} (hu : P.underlying t = some (.slice e)) (h : Szd P t (.slice elems spare)) : (elems.length + spare.length) * P.bytesOf e ≤ reachBytes ∧ ∀ d ∈ elems, Szd P e d :=
  ⟨h _ (by simp [DataW.weights, hu]), fun d hd n hn => h n (by simp only [DataW.weights, hu, List.mem_cons, List.mem_append]; exact Or.inr (Or.inl (wtAll_mem hd n hn)))⟩
theorem szd_string {H : Type} {P : Program} {t : TypeId} {b : List UInt8} (h : Szd (H := H) P t (.lit (.string b))) : b.length ≤ reachBytes := h _ (by simp [DataW.weights])
theorem bytes_u32 : Tryz.prog.bytesOf 116 = 4 := by kernel_rfl
theorem bytes_tide : Tryz.prog.bytesOf 85 = 136 := by kernel_rfl
theorem wf_u32' {n : Int} (h : (Lit.int .u32 n).wf = true) : 0 ≤ n ∧ n < 4294967296 := by
  simp only [Lit.wf, Bool.and_eq_true, decide_eq_true_eq] at h
  have h1 : IntKind.u32.min = 0 := by decide
  have h2 : IntKind.u32.max = 4294967295 := by decide
  omega
theorem wf_i32' {n : Int} (h : (Lit.int .i32 n).wf = true) : n.natAbs ≤ 2147483648 := by
  simp only [Lit.wf, Bool.and_eq_true, decide_eq_true_eq] at h
  have h1 : IntKind.i32.min = -2147483648 := by decide
  have h2 : IntKind.i32.max = 2147483647 := by decide
  omega
theorem list_choose' {α : Type} (R : Nat → α → Prop) (n : Nat) (h : ∀ i, i < n → ∃ y, R i y) : ∃ m : List α, m.length = n ∧ ∀ j (_ : j < n) (h' : j < m.length), R j m[j] := by
  induction n with
  | zero => exact ⟨[], rfl, fun j h => absurd h (by omega)⟩
  | succ n ih =>
    obtain ⟨m, h1, h2⟩ := ih fun i hi => h i (by omega)
    obtain ⟨y, hy⟩ := h n (by omega)
    refine ⟨m ++ [y], by simp [h1], fun j hj h' => ?_⟩
    by_cases e : j < n
    · rw [List.getElem_append_left (by omega)]; exact h2 j e (by omega)
    · obtain rfl : j = n := by omega
      rw [List.getElem_append_right (by omega)]
      simp only [h1, Nat.sub_self, List.getElem_cons_zero]
      exact hy
section
variable {H : Type} {enc : TypeId × Value → H} {w : World} {base : Nat} {held : Bool}
theorem add_at (b o j : Nat) : (⟨b, o, none⟩ : Addr).add j = ⟨b, o + j, none⟩ := by unfold Addr.add; split <;> simp_all
theorem spot_cell {w : World} {a : Addr} {v : Value} (h : w.cell? a = some v) : a = ⟨a.block, a.off, none⟩ := by
  obtain ⟨b, o, s⟩ := a
  cases s with
  | none => rfl
  | some x =>
    unfold World.cell? at h
    split at h
    · simp at h
    · cases h
set_option maxRecDepth 100000 in
theorem words_rd {fuel : Nat} {cs : List Value} {x : DataW H × List MemPlace} (h : DataW.trod enc Tryz.prog w base (fun _ => true) held fuel 22 cs = some x) (hz : Szd Tryz.prog 22 x.1) : ∃ A n c l, cs = [.slice A n c] ∧ Rd w A n c l := by
  rcases open_ints Tryz.underlying22 Tryz.underlying116 (by kernel_rfl) h with ⟨rfl, rfl⟩ | ⟨a, len, cap, zs, rfl, hb, hl, hm, hlen, rfl, hc, hwf⟩
  · exact ⟨none, 0, 0, [], rfl, Rd.nil w⟩
  · rw [if_pos rfl] at hlen
    have hs := (szd_slice Tryz.underlying22 hz).1
    rw [bytes_u32] at hs
    simp only [lits, List.length_map, List.length_take, List.length_drop, reachBytes] at hs
    have hcap : cap ≤ 35184372087808 := by omega
    refine ⟨some a, len, cap, (zs.take len).map Int.toNat, rfl, ?_, ?_, hl, ⟨by omega, hm⟩, fun hp => ?_⟩
    · simp; omega
    · intro y hy
      obtain ⟨z, hz', rfl⟩ := List.mem_map.1 hy
      have := wf_u32' (hwf z (List.mem_of_mem_take hz'))
      omega
    · have h0 := hc 0 (by omega)
      have ha : a = ⟨a.block, a.off, none⟩ := by
        have e : a.add 0 = a := rfl
        rw [e] at h0
        exact spot_cell h0
      refine ⟨a.block, a.off, congrArg some ha, fun j hj => ?_⟩
      have h1 := hc j (by omega)
      have e : a.add j = ⟨a.block, a.off + j, none⟩ := (congrArg (fun z : Addr => z.add j) ha).trans (add_at _ _ _)
      rw [e] at h1
      rw [h1]
      have hj2 : j < zs.length := by omega
      have h2 := wf_u32' (hwf (zs.getD j 0) (by rw [List.getD_eq_getElem?_getD, List.getElem?_eq_getElem hj2]; exact List.getElem_mem _))
      congr 2
      rw [List.getD_eq_getElem?_getD, List.getElem?_eq_getElem hj2] at h2 ⊢
      simp only [wd, List.getD_eq_getElem?_getD, List.getElem?_map, List.getElem?_take, if_pos hj, List.getElem?_eq_getElem hj2, Option.map_some, Option.getD_some] at h2 ⊢
      omega
set_option maxRecDepth 100000 in
theorem ratio_rd {fuel : Nat} {cs : List Value} {x : DataW H × List MemPlace} (h : DataW.trod enc Tryz.prog w base (fun _ => true) held fuel 24 cs = some x) (hz : Szd Tryz.prog 24 x.1) :
    ∃ g A n c l A' n' c' l', cs = [.bool g, .slice A n c, .slice A' n' c'] ∧ Rd w A n c l ∧ Rd w A' n' c' l' := by
  obtain ⟨xs, n, rfl, rfl, hlen, hxl, hf⟩ := DataW.trod_struct Tryz.underlying24 h
  have hc3 : Tryz.prog.cellsOf 24 = 3 := by kernel_rfl
  rw [hc3] at hlen
  match cs, hlen, xs, hxl with
  | [c0, c1, c2], _, [y0, y1, y2], _ =>
    have k1 : Tryz.prog.cellsOf 4 = 1 := by kernel_rfl
    have k2 : Tryz.prog.cellsOf 22 = 1 := by kernel_rfl
    have f0 := hf 0 ⟨ "Neg", 4, 0, false, "", "", 0⟩ rfl
    have f1 := hf 1 ⟨ "Num", 22, 1, false, "", "", 8⟩ rfl
    have f2 := hf 2 ⟨ "Den", 22, 2, false, "", "", 32⟩ rfl
    dsimp only at f0 f1 f2
    simp only [k1, k2] at f0 f1 f2
    obtain ⟨g, e0, _⟩ := DataW.trod_bool Tryz.underlying4 f0
    obtain ⟨A, n1, c, l, e1, r1⟩ := words_rd f1 (szd_struct Tryz.underlying24 hz (j := 1) rfl rfl)
    obtain ⟨A', n2, c', l', e2, r2⟩ := words_rd f2 (szd_struct Tryz.underlying24 hz (j := 2) rfl rfl)
    simp at e0 e1 e2
    subst e0 e1 e2
    exact ⟨g, A, n1, c, l, A', n2, c', l', rfl, r1, r2⟩
set_option maxRecDepth 100000 in
theorem tide_rd {fuel : Nat} {cs : List Value} {x : DataW H × List MemPlace} (h : DataW.trod enc Tryz.prog w base (fun _ => true) held fuel 85 cs = some x) (hz : Szd Tryz.prog 85 x.1) :
    ∃ (T : Td) (A1 : Option Addr) (n1 c1 : Nat) (A1' : Option Addr) (n1' c1' : Nat) (A2 : Option Addr) (n2 c2 : Nat) (A2' : Option Addr) (n2' c2' : Nat), cs = [.string T.nm, .int .i32 T.far, .int .i32 T.near, .bool T.g1, .slice A1 n1 c1, .slice A1' n1' c1', .bool T.g2, .slice A2 n2 c2, .slice A2' n2' c2'] ∧ TdV w T A1 n1 c1 A1' n1' c1' A2 n2 c2 A2' n2' c2' := by
  obtain ⟨xs, n, rfl, rfl, hlen, hxl, hf⟩ := DataW.trod_struct Tryz.underlying85 h
  have hc9 : Tryz.prog.cellsOf 85 = 9 := by kernel_rfl
  rw [hc9] at hlen
  match cs, hlen, xs, hxl with
  | [a0, a1, a2, a3, a4, a5, a6, a7, a8], _, [y0, y1, y2], _ =>
    have k1 : Tryz.prog.cellsOf 9 = 1 := by kernel_rfl
    have k2 : Tryz.prog.cellsOf 58 = 2 := by kernel_rfl
    have k3 : Tryz.prog.cellsOf 83 = 6 := by kernel_rfl
    have k4 : Tryz.prog.cellsOf 24 = 3 := by kernel_rfl
    have k5 : Tryz.prog.cellsOf 21 = 1 := by kernel_rfl
    have f0 := hf 0 ⟨ "Name", 9, 0, false, "", "", 0⟩ rfl
    have f1 := hf 1 ⟨ "Rotor", 58, 1, false, "", "", 16⟩ rfl
    have f2 := hf 2 ⟨ "Number", 83, 3, false, "", "", 24⟩ rfl
    dsimp only at f0 f1 f2
    simp only [k1, k2, k3] at f0 f1 f2
    obtain ⟨s, e0, _, hs⟩ := DataW.trod_string Tryz.underlying9 f0
    have z2 := szd_struct Tryz.underlying85 hz (j := 2) rfl rfl
    obtain ⟨us, m, _, hy1, _, hul, hu⟩ := DataW.trod_struct Tryz.underlying58 f1
    obtain ⟨vs, m', _, hy2, _, hvl, hv⟩ := DataW.trod_struct Tryz.underlying83 f2
    subst hy2
    match us, hul, vs, hvl with
    | [u0, u1], _, [v0, v1], _ =>
      have p0 := hu 0 ⟨ "Far", 21, 0, false, "", "", 0⟩ rfl
      have p1 := hu 1 ⟨ "Near", 21, 1, false, "", "", 4⟩ rfl
      have q0 := hv 0 ⟨ "Re", 24, 0, false, "", "", 0⟩ rfl
      have q1 := hv 1 ⟨ "Im", 24, 3, false, "", "", 56⟩ rfl
      dsimp only at p0 p1 q0 q1
      simp only [k4, k5] at p0 p1 q0 q1
      obtain ⟨f, e1, _, w1⟩ := DataW.trod_int Tryz.underlying21 p0
      obtain ⟨t, e2, _, w2⟩ := DataW.trod_int Tryz.underlying21 p1
      obtain ⟨g1, A1, n1, c1, l1, A1', n1', c1', l1', e3, r1, r2⟩ := ratio_rd q0 (szd_struct Tryz.underlying83 z2 (j := 0) rfl rfl)
      obtain ⟨g2, A2, n2, c2, l2, A2', n2', c2', l2', e4, r3, r4⟩ := ratio_rd q1 (szd_struct Tryz.underlying83 z2 (j := 1) rfl rfl)
      simp at e0 e1 e2 e3 e4
      obtain ⟨rfl, rfl, rfl⟩ := e3
      obtain ⟨rfl, rfl, rfl⟩ := e4
      subst e0 e1 e2
      exact ⟨⟨s, f, t, g1, l1, l1', g2, l2, l2'⟩, A1, n1, c1, A1', n1', c1', A2, n2, c2, A2', n2', c2', rfl, ⟨hs, wf_i32' w1, wf_i32' w2⟩, r1, r2, r3, r4⟩
set_option maxRecDepth 100000 in
theorem tides_rd {fuel : Nat} {cs : List Value} {x : DataW H × List MemPlace} (h : DataW.trod enc Tryz.prog w base (fun _ => true) held fuel 25 cs = some x) (hz : Szd Tryz.prog 25 x.1) : ∃ A n c ts, cs = [.slice A n c] ∧ TsR w A n c ts := by
  rcases open_slice Tryz.underlying25 h with ⟨rfl, rfl⟩ | ⟨a, len, cap, m, n, D, Pl, rfl, hb, hl, hm, hmm, rfl, hel⟩
  · exact ⟨none, 0, 0, [], rfl, rfl, Nat.le_refl _, ⟨by omega, Nat.zero_le _⟩, fun h => absurd h (by omega)⟩
  · rw [if_pos rfl] at hmm
    subst hmm
    have hc9 : Tryz.prog.cellsOf 85 = 9 := by kernel_rfl
    rw [hc9] at hel
    obtain ⟨hs, hse⟩ := szd_slice Tryz.underlying25 hz
    rw [bytes_tide] at hs
    simp only [List.length_map, List.length_range, reachBytes] at hs
    have hcap : m ≤ 35184372087808 := by omega
    have key : ∀ i, i < len → ∃ T, TdC w a.block (a.off + i * 9) T ∧ a = ⟨a.block, a.off, none⟩ := by
      intro i hi
      obtain ⟨cs', hcs, ht⟩ := hel i (by omega)
      obtain ⟨T, A1, n1, c1, A1', n1', c1', A2, n2, c2, A2', n2', c2', rfl, hV⟩ := tide_rd ht (hse (D i) (List.mem_map.2 ⟨i, List.mem_range.2 hi, rfl⟩))
      obtain ⟨_, _, hcell⟩ := World.cells?_some hcs
      have c0 := hcell 0 (by omega)
      have c1' := hcell 1 (by omega)
      have c2'' := hcell 2 (by omega)
      have c3 := hcell 3 (by omega)
      have c4 := hcell 4 (by omega)
      have c5 := hcell 5 (by omega)
      have c6 := hcell 6 (by omega)
      have c7 := hcell 7 (by omega)
      have c8 := hcell 8 (by omega)
      have e0 : ∀ j, (a.add (i * 9)).add j = a.add (i * 9 + j) := fun j => add_add a (i * 9) j
      simp only [e0] at c0 c1' c2'' c3 c4 c5 c6 c7 c8
      by_cases hz0 : i * 9 + 1 = 0
      · omega
      · have ha : ∀ j, 0 < j → a.add j = ⟨a.block, a.off + j, none⟩ := fun j hj => by unfold Addr.add; rw [if_neg (by omega)]
        have hsp : a = ⟨a.block, a.off, none⟩ ∨ 0 < i := by
          rcases Nat.eq_zero_or_pos i with h0 | h0
          · left
            subst h0
            exact spot_cell c0
          · exact .inr h0
        have ha0 : a.add (i * 9 + 0) = ⟨a.block, a.off + i * 9, none⟩ := by
          rcases Nat.eq_zero_or_pos i with h0 | h0
          · subst h0
            rcases hsp with hsp | hsp
            · rw [hsp]; rfl
            · omega
          · rw [ha _ (by omega)]; rfl
        rw [ha0] at c0
        rw [ha _ (by omega)] at c1' c2'' c3 c4 c5 c6 c7 c8
        refine ⟨T, ⟨A1, n1, c1, A1', n1', _, A2, n2, c2, A2', n2', c2', ⟨c0, by rw [Nat.add_assoc]; exact c1', by rw [Nat.add_assoc]; exact c2'', by rw [Nat.add_assoc]; exact c3, by rw [Nat.add_assoc]; exact c4, by rw [Nat.add_assoc]; exact c5, by rw [Nat.add_assoc]; exact c6, by rw [Nat.add_assoc]; exact c7, by rw [Nat.add_assoc]; exact c8⟩, hV⟩, ?_⟩
        obtain ⟨cs0, hcs0, ht0⟩ := hel 0 (by omega)
        obtain ⟨_, hl0, hcell0⟩ := World.cells?_some hcs0
        have d0 := hcell0 0 (by omega)
        have hn0 : 0 < cs0.length := by omega
        rw [List.getElem?_eq_getElem hn0] at d0
        exact spot_cell d0
    obtain ⟨ts, hts1, hts2⟩ := list_choose' (fun i T => TdC w a.block (a.off + i * 9) T) len (fun i hi => (key i hi).imp fun T h => h.1)
    refine ⟨some a, len, m, ts, rfl, hts1, hl, ⟨by omega, hm⟩, fun hp => ⟨a.block, a.off, ?_, fun j hj => hts2 j (by omega) hj⟩⟩
    obtain ⟨T, _, ha⟩ := key 0 hp
    exact congrArg some ha
set_option maxRecDepth 100000 in
theorem port_rd {fuel : Nat} {cs : List Value} {x : DataW H × List MemPlace} (h : DataW.trod enc Tryz.prog w base (fun _ => true) held fuel 27 cs = some x) (hz : Szd Tryz.prog 27 x.1) :
    ∃ p, PdR w (.agg cs.toArray) p := by
  obtain ⟨xs, n, rfl, rfl, hlen, hxl, hf⟩ := DataW.trod_struct Tryz.underlying27 h
  have hc5 : Tryz.prog.cellsOf 27 = 5 := by kernel_rfl
  rw [hc5] at hlen
  match cs, hlen, xs, hxl with
  | [a0, a1, a2, a3, a4], _, [y0, y1, y2], _ =>
    have k1 : Tryz.prog.cellsOf 9 = 1 := by kernel_rfl
    have k2 : Tryz.prog.cellsOf 24 = 3 := by kernel_rfl
    have k3 : Tryz.prog.cellsOf 25 = 1 := by kernel_rfl
    have f0 := hf 0 ⟨ "Name", 9, 0, false, "", "", 0⟩ rfl
    have f1 := hf 1 ⟨ "Mean", 24, 1, false, "", "", 16⟩ rfl
    have f2 := hf 2 ⟨ "Tides", 25, 4, false, "", "", 72⟩ rfl
    dsimp only at f0 f1 f2
    simp only [k1, k2, k3] at f0 f1 f2
    obtain ⟨s, e0, _, hs⟩ := DataW.trod_string Tryz.underlying9 f0
    obtain ⟨g, A, n1, c, l, A', n2, c', l', e1, r1, r2⟩ := ratio_rd f1 (szd_struct Tryz.underlying27 hz (j := 1) rfl rfl)
    obtain ⟨B, k, d, ts, e2, r3⟩ := tides_rd f2 (szd_struct Tryz.underlying27 hz (j := 2) rfl rfl)
    simp at e0 e1 e2
    obtain ⟨rfl, rfl, rfl⟩ := e1
    subst e0 e2
    exact ⟨⟨s, g, l, l', ts⟩, hs, A, n1, c, A', n2, c', B, k, d, rfl, r1, r2, r3⟩
end
end Go.Proofs.YtcbkijeonilcjaaGreat
