/- The reference of layer 2: whole numbers made. -/
import Derived.Test.YtcbkijeonilcjaaGreatHC7
import Derived.Test.YtcbkijeonilcjaaGreatHC11
import Derived.Test.YtcbkijeonilcjaaGreatHC21
namespace Go.Proofs.YtcbkijeonilcjaaGreat
open Go.RowKit

/-- a whole number made by the call -/
def WhO (w : World) (lo : Nat) (v : Value) (z : Int) : Prop := ∃ vn, v = .agg #[.bool (decide (z < 0)), vn] ∧ Own 116 w lo vn (wds z.natAbs)
def WhR (w : World) (v : Value) (z : Int) : Prop := ∃ A c, v = .agg #[.bool (decide (z < 0)), .slice A (wl z.natAbs) c] ∧ Rd w A (wl z.natAbs) c (wds z.natAbs)
theorem WhO.rd {w : World} {lo : Nat} {v : Value} {z : Int} (h : WhO w lo v z) : WhR w v z := by
  obtain ⟨vn, rfl, h⟩ := h
  obtain ⟨A, c, rfl, hR⟩ := h.wl0
  exact ⟨A, c, rfl, hR⟩
theorem WhO.below {w w1 : World} {lo : Nat} {v : Value} {z : Int} (h : WhO w lo v z) (hb : Below w.heap.size w w1) : WhO w1 lo v z := by
  obtain ⟨vn, rfl, h⟩ := h
  exact ⟨vn, rfl, h.below hb⟩
theorem WhO.mono {w : World} {lo lo' : Nat} {v : Value} {z : Int} (h : WhO w lo v z) (hl : lo' ≤ lo) : WhO w lo' v z := by
  obtain ⟨vn, rfl, h⟩ := h
  exact ⟨vn, rfl, h.mono hl⟩
theorem WhR.below {w w1 : World} {v : Value} {z : Int} (h : WhR w v z) (hb : Below w.heap.size w w1) : WhR w1 v z := by
  obtain ⟨A, c, rfl, hR⟩ := h
  exact ⟨A, c, rfl, hR.below hb⟩
theorem Own.setc {T : TypeId} {w : World} {lo : Nat} {v : Value} {l : List Nat} (h : Own T w lo v l) {b o : Nat} (hb : b < lo) (u : Value) : Own T (w.setCell ⟨b, o, none⟩ u) lo v l := by
  rcases h with h | ⟨b', o', n, c, rfl, h1, hA⟩
  · exact .inl h
  · exact .inr ⟨b', o', n, c, rfl, h1, hA.other ⟨b, o, none⟩ u (by show b' ≠ b; omega)⟩
theorem WhO.set2 {w : World} {lo b : Nat} {v x y : Value} {z : Int} (h : WhO w lo v z) (hb : b < lo) : WhO ((w.setCell ⟨b, 0, none⟩ x).setCell ⟨b, 1, none⟩ y) lo v z := by
  obtain ⟨vn, rfl, h⟩ := h
  exact ⟨vn, rfl, (h.setc hb _).setc hb _⟩
theorem cell2 {w : World} {b : Nat} {x y : Value} {T : TypeId} (h : w.heap[b]? = some (.cells #[x, y] T)) :
    w.cell? ⟨b, 0, none⟩ = some x ∧ w.cell? ⟨b, 1, none⟩ = some y ∧ w.frozen? ⟨b, 0, none⟩ = false ∧ w.frozen? ⟨b, 1, none⟩ = false := by
  refine ⟨?_, ?_, ?_, ?_⟩ <;> simp [World.cell?, World.frozen?, h]
/-- what an append leaves, read as a list -/
theorem row_own {w : World} {base n : Nat} {v : Value} {l : List Nat} (h : w.ownsRow base 116 1 v n (u32s l)) (hl : lim l) (hn : n ≤ 35184372087808) : Own 116 w base v l ∧ ∃ A c, v = .slice A n c := by
  refine ⟨Own.of_row h hl hn, ?_⟩
  rcases h.2 with ⟨rfl, rfl⟩ | ⟨g, cap, cur, rfl, _⟩
  · exact ⟨_, _, rfl⟩
  · exact ⟨_, _, rfl⟩
theorem sg_neg (g : Bool) (x : Nat) : decide (sg g x < 0) = (g && decide (0 < x)) := by
  cases g
  · simp [sg]
  · simp [sg]

set_option maxHeartbeats 1000000 in
theorem ref02_made (g : Bool) (A : Option Addr) (n c : Nat) (l : List Nat) (w : World) (h : Rd w A n c l) :
    Calls Tryz.prog 280 #[.bool g, .slice A n c] w fun e w' => ∃ v, e = .returned v ∧ WhO w' w.heap.size v (sg g (val l)) ∧ Below w.heap.size w w' := by
  obtain ⟨i0, hi0, hz0, hz1, hz2⟩ := info_parts u32_info
  have hb0 : Below w.heap.size w (w.alloc (.cells #[.bool false, .slice none 0 0] 233)) := (Below.refl _ _).alloc (Nat.le_refl _) _
  have hwl : wl (val l) ≤ 35184372087808 := Nat.le_trans (wl_val_le h.lim) (by have := h.len; have := h.big; omega)
  have HB0 := Lib.hid hb0
  have HR := Lib.hid (h.below hb0)
  have hbl : (w.alloc (.cells #[.bool false, .slice none 0 0] 233)).heap[w.heap.size]? = some (.cells #[.bool false, .slice none 0 0] 233) := heap_alloc_new w _
  have HBL := Lib.hid hbl
  clear hb0 h hbl
  by_cases h0 : 0 < wl (val l)
  all_goals
    first
      | (have e1 : ((0 : Int) < (wl (val l) : Int)) = True := by simp; omega
         have HD : Hid (decide (sg g (val l) < 0) = g) := by
           show decide (sg g (val l) < 0) = g
           rw [sg_neg, decide_eq_true (wl_pos_iff.1 h0), Bool.and_true])
      | (have e1 : ((0 : Int) < (wl (val l) : Int)) = False := by simp; omega
         have HD : Hid (decide (sg g (val l) < 0) = false) := by
           show decide (sg g (val l) < 0) = false
           rw [sg_neg, decide_eq_false (fun h => h0 (wl_pos_iff.2 h)), Bool.and_false])
    have HP := Lib.hid h0
    clear h0
    rcases g with _ | _
    · go_enter Tryz.func280, Tryz.ntmps280
      go_wp2_with fail
      refine (ref01_Trim A n c l _ HR.out).mono ?_
      rintro e w1 ⟨v1, rfl, hO1, hB1⟩
      obtain ⟨A1, c1, rfl, hR1⟩ := hO1.wl0
      have hs1 : w.heap.size + 1 ≤ w1.heap.size := by have := hB1.size; simpa using this
      have HR1 := Lib.hid hR1
      have hbl1 := blk_below hB1 HBL.out
      have HB1 := Lib.hid (HB0.out.trans (hB1.mono HB0.out.size))
      have HBL1 := Lib.hid hbl1
      clear hO1 hB1 hR1 hbl1
      go_wp2_with (at_builtin; refine wpList_append_rd _ rfl (.tmp 6) (.tmp 8) 22 rfl (w.heap.size + 1) 116 i0 _ Tryz.underlying22 hi0 hz0 hz1 hz2 rfl (.slice none 0 0) 0 [] rfl (World.ownsRow_nil _ _ _ _) A1 (wl (val l)) c1 (wds (val l)) rfl HR1.out (by omega) hs1 ?_; intro v5 w5 hown hgr; obtain ⟨hO5, A5, c5, rfl⟩ := row_own (n := 0 + wl (val l)) hown (lim_wds _) (by omega); have hB5 : Below (w.heap.size + 1) w1 w5 := (Below.refl _ _).grown hgr hs1 (fun k hk => by simp [Value.ownBlock] at hk); have hbl5 := (hB5.block w.heap.size (by omega)).trans HBL1.out; obtain ⟨q0, q1, q2, q3⟩ := cell2 hbl5; have hs5 := hB5.size)
      exact bodyPost_ret (v := .agg #[.bool (decide (sg false (val l) < 0)), .slice A5 (wl (val l)) c5]) (by have hp := HP.out; rw [HD.out]; first | (simp [results, Tryz.results280, go_sem, q0, q1]; done) | (simp [results, Tryz.results280, go_sem, q0, q1]; omega)) rfl
        ⟨_, rfl, ⟨_, rfl, by
          have e : (sg false (val l)).natAbs = val l := sg_natAbs _ _
          rw [e]
          have : Own 116 w5 (w.heap.size + 1) (.slice A5 (wl (val l)) c5) (wds (val l)) := by simpa using hO5
          exact ((this.setc (by omega) _).setc (by omega) _).mono (by omega)⟩, ((HB1.out.trans (hB5.mono (by omega))).setCell (Nat.le_refl _) _).setCell (Nat.le_refl _) _⟩
    · go_enter Tryz.func280, Tryz.ntmps280
      go_wp2_with fail
      refine (ref01_Trim A n c l _ HR.out).mono ?_
      rintro e w1 ⟨v1, rfl, hO1, hB1⟩
      obtain ⟨A1, c1, rfl, hR1⟩ := hO1.wl0
      have hs1 : w.heap.size + 1 ≤ w1.heap.size := by have := hB1.size; simpa using this
      have HR1 := Lib.hid hR1
      have hbl1 := blk_below hB1 HBL.out
      have HB1 := Lib.hid (HB0.out.trans (hB1.mono HB0.out.size))
      have HBL1 := Lib.hid hbl1
      clear hO1 hB1 hR1 hbl1
      go_wp2_with (at_builtin; refine wpList_append_rd _ rfl (.tmp 6) (.tmp 8) 22 rfl (w.heap.size + 1) 116 i0 _ Tryz.underlying22 hi0 hz0 hz1 hz2 rfl (.slice none 0 0) 0 [] rfl (World.ownsRow_nil _ _ _ _) A1 (wl (val l)) c1 (wds (val l)) rfl HR1.out (by omega) hs1 ?_; intro v5 w5 hown hgr; obtain ⟨hO5, A5, c5, rfl⟩ := row_own (n := 0 + wl (val l)) hown (lim_wds _) (by omega); have hB5 : Below (w.heap.size + 1) w1 w5 := (Below.refl _ _).grown hgr hs1 (fun k hk => by simp [Value.ownBlock] at hk); have hbl5 := (hB5.block w.heap.size (by omega)).trans HBL1.out; obtain ⟨q0, q1, q2, q3⟩ := cell2 hbl5; have hs5 := hB5.size)
      exact bodyPost_ret (v := .agg #[.bool (decide (sg true (val l) < 0)), .slice A5 (wl (val l)) c5]) (by have hp := HP.out; rw [HD.out]; first | (simp [results, Tryz.results280, go_sem, q0, q1]; done) | (simp [results, Tryz.results280, go_sem, q0, q1]; omega)) rfl
        ⟨_, rfl, ⟨_, rfl, by
          have e : (sg true (val l)).natAbs = val l := sg_natAbs _ _
          rw [e]
          have : Own 116 w5 (w.heap.size + 1) (.slice A5 (wl (val l)) c5) (wds (val l)) := by simpa using hO5
          exact ((this.setc (by omega) _).setc (by omega) _).mono (by omega)⟩, ((HB1.out.trans (hB5.mono (by omega))).setCell (Nat.le_refl _) _).setCell (Nat.le_refl _) _⟩
end Go.Proofs.YtcbkijeonilcjaaGreat

/- The reference of layer 1: sums. -/
namespace Go.Proofs.YtcbkijeonilcjaaGreat
open Go.RowKit

theorem addAt_full {x y k c : Nat} {l : List Nat} (h : addAt x y k c l) (hx : wl x < k) (hy : wl y < k) (hl : l.length = k) : val l = x + y := by
  obtain ⟨_, h2⟩ := h
  rw [mod_top (by omega), mod_top (by omega), ← hl, List.take_length] at h2
  obtain ⟨j, hj⟩ : ∃ j, l.length = j + 1 := ⟨l.length - 1, by omega⟩
  have h3 : x < 4294967296 ^ j := wl_le.1 (by omega)
  have h4 : y < 4294967296 ^ j := wl_le.1 (by omega)
  rw [hj, Nat.pow_succ] at h2
  rcases Nat.eq_zero_or_pos c with rfl | hc
  · omega
  · have : 4294967296 ^ j * 4294967296 ≤ c * (4294967296 ^ j * 4294967296) := Nat.le_mul_of_pos_left _ hc
    omega

set_option maxHeartbeats 1000000 in
theorem ref01_Plus (A A' : Option Addr) (n c n' c' : Nat) (l l' : List Nat) (w : World) (h : Rd w A n c l) (h' : Rd w A' n' c' l') (hn : n ≤ 1000000) (hn' : n' ≤ 1000000) :
    Calls Tryz.prog 281 #[.slice A n c, .slice A' n' c'] w fun e w' => ∃ v, e = .returned v ∧ Own 116 w' w.heap.size v (wds (val l + val l')) ∧ Below w.heap.size w w' := by
  obtain ⟨i0, hi0, hz0, hz1, hz2⟩ := info_parts u32_info
  obtain ⟨m, hm⟩ : ∃ m : Nat, max (n : Int) (n' : Int) = (m : Int) := ⟨max n n', by omega⟩
  have HM : Hid (n ≤ m ∧ n' ≤ m ∧ m ≤ 1000000) := by show _ ∧ _ ∧ _; omega
  have hmb : m ≤ 1000000 := HM.out.2.2
  have HV : Hid (wl (val l) < m + 1 ∧ wl (val l') < m + 1) := ⟨Nat.lt_succ_of_le (Nat.le_trans (wl_val_le h.lim) (by have := h.len; have := HM.out; omega)), Nat.lt_succ_of_le (Nat.le_trans (wl_val_le h'.lim) (by have := h'.len; have := HM.out; omega))⟩
  have HWD : Hid ((∀ k, wd (wds (val l)) k = wd l k) ∧ ∀ k, wd (wds (val l')) k = wd l' k) := ⟨wd_wds_val h.lim, wd_wds_val h'.lim⟩
  have hmk := fun (w : World) => run_make_u32 (P := Tryz.prog) 22 116 i0 Tryz.underlying22 hi0 hz0 hz1 hz2 (m + 1) ((m : Int) + 1) (by omega) (by omega) w
  have ha0 : Ar 116 (w.alloc (.cells (zeros (m + 1)) 116)) w.heap.size 0 (m + 1) (m + 1) (List.replicate (m + 1) 0) := ar_zeros 116 w (m + 1) (by omega)
  have hb0 : Below w.heap.size w (w.alloc (.cells (zeros (m + 1)) 116)) := (Below.refl _ _).alloc (Nat.le_refl _) _
  clear hi0 hz0 hz1 hz2
  generalize hg : w.heap.size = g at ha0
  generalize hw0 : w.alloc (.cells (zeros (m + 1)) 116) = w0 at ha0 hb0
  go_enter Tryz.func281, Tryz.ntmps281
  go_wp2
  have HW0 := Lib.hid hw0
  have HG := Lib.hid hg
  have HMM := Lib.hid hm
  clear hw0 hg hm
  go_loopw [7, 8] (fun cv iv wr => ∃ (k c2 : Nat) (cs : List Nat), iv = .int .i64 k ∧ cv = .int .u64 c2 ∧ k ≤ m + 1 ∧ addAt (val l) (val l') k c2 cs ∧ Ar 116 wr g 0 (m + 1) (m + 1) cs ∧ (∃ n1, Mod g 0 (m + 1) (w0.drewN n1) wr)) (fun _ iv _ => m + 1 - (intOf iv).toNat)
  case atStart => exact ⟨0, 0, _, rfl, rfl, Nat.zero_le _, addAt_zero _ _ _, ha0, 0, Mod.refl _ _ _ _⟩
  case round =>
    obtain ⟨k, c2, cs, rfl, rfl, hk, hS, hA, n1, hM⟩ := hrel
    have hc1 := hS.1
    have R1 := h.mod (below_drewN hb0 n1) hM (Nat.le_of_eq HG.out)
    have R2 := h'.mod (below_drewN hb0 n1) hM (Nat.le_of_eq HG.out)
    have HMo := Lib.hid hM
    clear hM
    by_cases hlt : k < m + 1
    · have f1 := hA.cell k (by omega)
      have f2 := hA.free k
      have l1 := wd_lt R1.lim k
      have l2 := wd_lt R2.lim k
      rw [Nat.zero_add] at f1
      have hst := addAt_step hS (by have := hA.len; omega)
      rw [HWD.out.1, HWD.out.2] at hst
      have hA2 := hA.set k ((c2 + wd l k + wd l' k) % 4294967296) (by omega) (by omega)
      rw [Nat.zero_add] at hA2
      have HS2 := Lib.hid (And.intro hst hA2)
      clear hst hA2 hS
      go_wp2_with fail
      refine (ref01_word A n c l k _ R1 (by omega)).mono ?_
      rintro e w1 ⟨rfl, n4, rfl⟩
      go_wp2_with fail
      refine (ref01_word A' n' c' l' k _ (R2.drewN _) (by omega)).mono ?_
      rintro e w1 ⟨rfl, n5, rfl⟩
      go_wp2_with fail
      obtain ⟨hst, hA2⟩ := HS2.out
      go_roundw
      case rel =>
        refine ⟨k + 1, (c2 + wd l k + wd l' k) / 4294967296, cs.set k ((c2 + wd l k + wd l' k) % 4294967296), by go_num, ?_, by omega, hst, ?_, n1, (HMo.out.drewN _).setCell k _ (by omega)⟩
        · congr 1; omega
        · have e : ((wd l k : Int) + (wd l' k : Nat) + (c2 : Nat)) % 4294967296 = (((c2 + wd l k + wd l' k) % 4294967296 : Nat) : Int) := by omega
          rw [e]; exact hA2
      case measure => simp [intOf]; omega
    · obtain rfl : k = m + 1 := by omega
      have hv := addAt_full hS HV.out.1 HV.out.2 hA.len
      go_wp2_with fail
      refine (ref01_Trim _ _ _ _ _ hA.rd).mono ?_
      rintro e w1 ⟨v, rfl, hO, hB1⟩
      rw [hv] at hO
      go_wp2
      go_ret
      have hbx : Below g w wr := by
        have := (HMo.out.below _ (Nat.le_refl _))
        rw [HG.out] at hb0
        exact (below_drewN hb0 n1).trans this
      have hsz : g ≤ wr.heap.size := Nat.le_of_lt hA.lt
      exact ⟨_, rfl, hO.mono hsz, hbx.trans (hB1.mono hsz)⟩
end Go.Proofs.YtcbkijeonilcjaaGreat
