/- Package tide: names. -/
import Derived.Test.YtcbkijeonilcjaaGreatHC18
namespace Go.Proofs.YtcbkijeonilcjaaGreat
open Go.RowKit

def byteAt (s : ByteArray) (i : Nat) : Int := if h : i < s.size then (s[i].toNat : Int) else 0
theorem byteAt_lt (s : ByteArray) {i : Nat} (h : i < s.size) : byteAt s i = (s[i].toNat : Int) := by unfold byteAt; rw [dif_pos h]
def chB (c : Int) : Bool := letB c || decide (48 ≤ c ∧ c ≤ 57)
def nameOk (s : ByteArray) : Prop := 1 ≤ s.size ∧ s.size ≤ 20 ∧ letB (byteAt s 0) = true ∧ ∀ i, i < s.size → chB (byteAt s i) = true
instance (s : ByteArray) : Decidable (nameOk s) := by unfold nameOk; infer_instance
def nameB (s : ByteArray) : Bool := decide (nameOk s)

set_option maxRecDepth 100000 in
set_option maxHeartbeats 1000000 in
theorem tide_Name (s : ByteArray) (w : World) (hs : s.size ≤ maxLen) :
    Calls Tryz.prog 123 #[.string s] w fun e w' => e = .returned (.bool (nameB s)) ∧ w' = w := by
  unfold maxLen at hs
  by_cases h0 : s.size = 0
  · have HE : Hid (nameB s = false) := by show nameB s = false; unfold nameB; rw [decide_eq_false_iff_not]; intro h; have := h.1; have := h.2.1; omega
    obtain rfl : s = ByteArray.empty := by
      rcases s with ⟨a⟩
      have : a.size = 0 := h0
      rw [Array.size_eq_zero_iff.1 this]; rfl
    clear h0 hs
    go_enter Tryz.func123, Tryz.ntmps123
    go_wp2_with fail
    go_ret
    exact ⟨by rw [HE.out]; rfl, rfl⟩
  · have hp : 0 < s.size := by omega
    have ne1 : (s.toList = []) = False := by
      simp only [eq_iff_iff, iff_false]
      intro h
      rw [Lib.toList_data] at h
      have h2 := Lib.size_eq s
      rw [h] at h2
      simp only [List.length_nil] at h2
      omega
    have ne2 : s.toList.isEmpty = false := by
      rw [Bool.eq_false_iff]; intro h; rw [List.isEmpty_iff] at h; rw [ne1] at h; exact h
    clear h0
    by_cases h20 : 20 < s.size
    · have HE : Hid (nameB s = false) := by show nameB s = false; unfold nameB; rw [decide_eq_false_iff_not]; intro h; have := h.2.1; omega
      have e1 : ((20 : Int) < (s.size : Int)) = True := by simp; omega
      go_enter Tryz.func123, Tryz.ntmps123
      go_wp2_with fail
      go_ret
      exact ⟨by rw [HE.out]; rfl, rfl⟩
    · have e1 : ((20 : Int) < (s.size : Int)) = False := by simp; omega
      have HL := Lib.hid (byteAt_lt s hp)
      go_enter Tryz.func123, Tryz.ntmps123
      go_wp2_with fail
      refine (tide_letter _ _).mono ?_
      rintro e w1 ⟨rfl, rfl⟩
      by_cases hl : letB (byteAt s 0) = true
      · have hl2 : letB ((s[0].toNat : Nat) : Int) = true := by rw [← byteAt_lt s hp]; exact hl
        have HH := Lib.hid hl
        clear hl
        rw [hl2]
        go_wp2_with fail
        go_loop [19] (fun i => ∃ k : Nat, k ≤ s.size ∧ i = .int .i64 k ∧ ∀ j, j < k → chB (byteAt s j) = true) (fun i => s.size - (intOf i).toNat)
        case atStart => exact ⟨0, Nat.zero_le _, rfl, fun j hj => absurd hj (by omega)⟩
        case round =>
          obtain ⟨k, hk, rfl, hA⟩ := hrel
          have HA := Lib.hid hA
          clear hA
          by_cases hlt : k < s.size
          · have hbk := byteAt_lt s hlt
            by_cases hlk : letB ((s[k].toNat : Nat) : Int) = true
            · have HN : Hid (∀ j, j < k + 1 → chB (byteAt s j) = true) := by
                intro j hj
                rcases (by omega : j < k ∨ j = k) with h | rfl
                · exact HA.out j h
                · rw [hbk]; unfold chB; rw [hlk]; rfl
              have HB := Lib.hid hbk
              clear hbk
              go_wp2_with fail
              refine (tide_letter _ _).mono ?_
              rintro e w1 ⟨rfl, rfl⟩
              rw [hlk]
              go_wp2_with fail
              go_round
              case rel => exact ⟨k + 1, by omega, by go_num, HN.out⟩
              case measure => simp [intOf]; omega
            · have hlk2 : letB ((s[k].toNat : Nat) : Int) = false := by simpa using hlk
              clear hlk
              by_cases hd : 48 ≤ ((s[k].toNat : Nat) : Int) ∧ ((s[k].toNat : Nat) : Int) ≤ 57
              · have HN : Hid (∀ j, j < k + 1 → chB (byteAt s j) = true) := by
                  intro j hj
                  rcases (by omega : j < k ∨ j = k) with h | rfl
                  · exact HA.out j h
                  · rw [hbk]; unfold chB; rw [hlk2, decide_eq_true hd]; rfl
                have HB := Lib.hid hbk
                obtain ⟨d1, d2⟩ := hd
                clear hbk
                go_wp2_with fail
                refine (tide_letter _ _).mono ?_
                rintro e w1 ⟨rfl, rfl⟩
                rw [hlk2]
                go_wp2_with fail
                go_round
                case rel => exact ⟨k + 1, by omega, by go_num, HN.out⟩
                case measure => simp [intOf]; omega
              · have HE : Hid (nameB s = false) := by
                  show nameB s = false
                  unfold nameB; rw [decide_eq_false_iff_not]; intro h
                  have h2 := h.2.2.2 k hlt
                  rw [hbk] at h2; unfold chB at h2; rw [hlk2, decide_eq_false hd] at h2; cases h2
                have HB := Lib.hid hbk
                clear hbk
                by_cases d1 : 48 ≤ ((s[k].toNat : Nat) : Int)
                all_goals
                  first
                    | have d2 : ¬ ((s[k].toNat : Nat) : Int) ≤ 57 := fun h => hd ⟨d1, h⟩
                    | have d2 : True := trivial
                  clear hd
                  go_wp2_with fail
                  refine (tide_letter _ _).mono ?_
                  rintro e w1 ⟨rfl, rfl⟩
                  rw [hlk2]
                  go_wp2_with fail
                  go_ret
                  exact ⟨by rw [HE.out]; rfl, rfl⟩
          · have HE : Hid (nameB s = true) := by
              show nameB s = true
              unfold nameB; rw [decide_eq_true_iff]
              exact ⟨hp, by omega, HH.out, fun j hj => HA.out j (by omega)⟩
            go_wp2_with fail
            go_ret
            exact ⟨by rw [HE.out]; rfl, rfl⟩
      · have HE : Hid (nameB s = false) := by show nameB s = false; unfold nameB; rw [decide_eq_false_iff_not]; intro h; exact hl h.2.2.1
        have hl2 : letB ((s[0].toNat : Nat) : Int) = false := by rw [← byteAt_lt s hp]; simpa using hl
        clear hl
        go_wp2_with fail
        go_ret
        exact ⟨by rw [HE.out]; rfl, rfl⟩
end Go.Proofs.YtcbkijeonilcjaaGreat

/- Package tide: Check. -/
namespace Go.Proofs.YtcbkijeonilcjaaGreat
open Go.RowKit

/-- why a constituent may not be -/
def tideE (s : ByteArray) (f n : Int) (c : Int) : Int := if nameB s = true then chk2 (rotE f n) c else 4
theorem cell9 {w : World} {b : Nat} {a0 a1 a2 a3 a4 a5 a6 a7 a8 : Value} {T : TypeId} (h : w.heap[b]? = some (.cells #[a0, a1, a2, a3, a4, a5, a6, a7, a8] T)) :
    w.cell? ⟨b, 0, none⟩ = some a0 ∧ w.cell? ⟨b, 1, none⟩ = some a1 ∧ w.cell? ⟨b, 2, none⟩ = some a2 ∧ w.cell? ⟨b, 3, none⟩ = some a3 ∧ w.cell? ⟨b, 4, none⟩ = some a4 ∧ w.cell? ⟨b, 5, none⟩ = some a5 ∧ w.cell? ⟨b, 6, none⟩ = some a6 ∧ w.cell? ⟨b, 7, none⟩ = some a7 ∧ w.cell? ⟨b, 8, none⟩ = some a8 := by
  refine ⟨?_, ?_, ?_, ?_, ?_, ?_, ?_, ?_, ?_⟩ <;> simp [World.cell?, h]

set_option maxRecDepth 100000 in
set_option maxHeartbeats 1000000 in
theorem tide_Check (s : ByteArray) (f n : Int) {g1 g2 : Bool} {A1 A1' A2 A2' : Option Addr} {n1 n1' n2 n2' c1 c1' c2 c2' : Nat} {l1 l1' l2 l2' : List Nat} (w : World) (hs : s.size ≤ maxLen) (hf : f.natAbs ≤ 2147483648) (hn : n.natAbs ≤ 2147483648)
    (h1 : Rd w A1 n1 c1 l1) (h1' : Rd w A1' n1' c1' l1') (h2 : Rd w A2 n2 c2 l2) (h2' : Rd w A2' n2' c2' l2') :
    Calls Tryz.prog 125 #[.agg #[.string s, .int .i32 f, .int .i32 n, .bool g1, .slice A1 n1 c1, .slice A1' n1' c1', .bool g2, .slice A2 n2 c2, .slice A2' n2' c2']] w fun e1 w' => e1 = .returned (.int .i64 (tideE s f n (chk2 (chkR g1 l1 l1') (chkR g2 l2 l2')))) ∧ Below w.heap.size w w' := by
  obtain ⟨W0, hW0⟩ : ∃ x, w.alloc (.cells #[.string s, .int .i32 f, .int .i32 n, .bool g1, .slice A1 n1 c1, .slice A1' n1' c1', .bool g2, .slice A2 n2 c2, .slice A2' n2' c2'] 85) = x := ⟨_, rfl⟩
  have hb0 : Below w.heap.size w W0 := by rw [← hW0]; exact (Below.refl _ _).alloc (Nat.le_refl _) _
  have hk : W0.heap[w.heap.size]? = some (.cells #[.string s, .int .i32 f, .int .i32 n, .bool g1, .slice A1 n1 c1, .slice A1' n1' c1', .bool g2, .slice A2 n2 c2, .slice A2' n2' c2'] 85) := by rw [← hW0]; exact heap_alloc_new w _
  obtain ⟨z0, z1, z2, z3, z4, z5, z6, z7, z8⟩ := cell9 hk
  have HA := Lib.hid (And.intro hb0 (And.intro hk (And.intro (h1.below hb0) (And.intro (h1'.below hb0) (And.intro (h2.below hb0) (h2'.below hb0))))))
  have HS := Lib.hid (And.intro hs (And.intro hf hn))
  clear hb0 hk h1 h1' h2 h2' hs hf hn
  go_enter Tryz.func125, Tryz.ntmps125
  go_wp2_with fail
  have HW0 := Lib.hid hW0
  clear hW0
  refine (tide_Name s _ HS.out.1).mono ?_
  rintro e1 W0' ⟨rfl, rfl⟩
  cases hnm : nameB s
  · have HE : Hid (tideE s f n (chk2 (chkR g1 l1 l1') (chkR g2 l2 l2')) = 4) := by show tideE _ _ _ _ = 4; unfold tideE; rw [hnm, if_neg (by simp)]
    clear hnm
    go_wp2_with fail
    go_ret
    exact ⟨ret_int HE.out.symm, HA.out.1⟩
  · have HE : Hid (tideE s f n (chk2 (chkR g1 l1 l1') (chkR g2 l2 l2')) = chk2 (rotE f n) (chk2 (chkR g1 l1 l1') (chkR g2 l2 l2'))) := by show tideE _ _ _ _ = _; unfold tideE; rw [if_pos hnm]
    clear hnm
    go_wp2_with fail
    refine (rotor_Check f n _ HS.out.2.1 HS.out.2.2).mono ?_
    rintro e1 w1 ⟨rfl, hB1⟩
    by_cases hr : rotE f n = 0
    · have HR : Hid (chk2 (rotE f n) (chk2 (chkR g1 l1 l1') (chkR g2 l2 l2')) = chk2 (chkR g1 l1 l1') (chkR g2 l2 l2')) := by show chk2 _ _ = _; rw [hr]; rfl
      rw [hr]
      clear hr z0 z1 z2 z3 z4 z5 z6 z7 z8
      obtain ⟨z0, z1, z2, z3, z4, z5, z6, z7, z8⟩ := cell9 ((hB1.block _ (heap_lt HA.out.2.1)).trans HA.out.2.1)
      have HB1 := Lib.hid hB1
      clear hB1
      go_wp2_with fail
      refine (gauss_Check _ (HA.out.2.2.1.below HB1.out) (HA.out.2.2.2.1.below HB1.out) (HA.out.2.2.2.2.1.below HB1.out) (HA.out.2.2.2.2.2.below HB1.out)).mono ?_
      rintro e1 w2 ⟨rfl, hB2⟩
      go_wp2_with fail
      go_ret
      exact ⟨ret_int (HE.out.trans HR.out).symm, (HA.out.1.trans (HB1.out.mono HA.out.1.size)).trans (hB2.mono (Nat.le_trans HA.out.1.size HB1.out.size))⟩
    · have HR : Hid (chk2 (rotE f n) (chk2 (chkR g1 l1 l1') (chkR g2 l2 l2')) = rotE f n) := chk2_ne hr _
      have e9 : (rotE f n != 0) = true := by simp [hr]
      clear hr
      have HB1 := Lib.hid hB1
      clear hB1
      go_wp2_with fail
      go_ret
      exact ⟨ret_int (HE.out.trans HR.out).symm, HA.out.1.trans (HB1.out.mono HA.out.1.size)⟩
end Go.Proofs.YtcbkijeonilcjaaGreat

/- The reference of layer 13: names. -/
namespace Go.Proofs.YtcbkijeonilcjaaGreat
open Go.RowKit

theorem ref13_letter (c : Int) (w : World) :
    Calls Tryz.prog 214 #[.int .u8 c] w fun e w' => e = .returned (.bool (letB c)) ∧ w' = w := by
  have HL : ∀ b, (b = letB c) → Hid (b = letB c) := fun b h => h
  by_cases h1 : 97 ≤ c
  · by_cases h2 : c ≤ 122
    · have HE : Hid (letB c = true) := by show letB c = true; unfold letB; simp [h1, h2]
      clear HL
      go_enter Tryz.func214, Tryz.ntmps214
      go_wp2
      go_ret
      exact ⟨by rw [HE.out]; rfl, rfl⟩
    · have HE : Hid (letB c = false) := by show letB c = false; unfold letB; simp; omega
      have h3 : 65 ≤ c := by omega
      have h4 : ¬ c ≤ 90 := by omega
      clear HL
      go_enter Tryz.func214, Tryz.ntmps214
      go_wp2
      go_ret
      exact ⟨by rw [HE.out]; rfl, rfl⟩
  · by_cases h3 : 65 ≤ c
    · by_cases h4 : c ≤ 90
      · have HE : Hid (letB c = true) := by show letB c = true; unfold letB; simp [h3, h4]
        clear HL
        go_enter Tryz.func214, Tryz.ntmps214
        go_wp2
        go_ret
        exact ⟨by rw [HE.out]; rfl, rfl⟩
      · have HE : Hid (letB c = false) := by show letB c = false; unfold letB; simp; omega
        clear HL
        go_enter Tryz.func214, Tryz.ntmps214
        go_wp2
        go_ret
        exact ⟨by rw [HE.out]; rfl, rfl⟩
    · have HE : Hid (letB c = false) := by show letB c = false; unfold letB; simp; omega
      clear HL
      go_enter Tryz.func214, Tryz.ntmps214
      go_wp2
      go_ret
      exact ⟨by rw [HE.out]; rfl, rfl⟩

def digB (c : Int) : Bool := decide (48 ≤ c ∧ c ≤ 57)
theorem ref13_digit (c : Int) (w : World) :
    Calls Tryz.prog 215 #[.int .u8 c] w fun e w' => e = .returned (.bool (digB c)) ∧ w' = w := by
  by_cases h1 : 48 ≤ c
  · by_cases h2 : c ≤ 57
    · have HE : Hid (digB c = true) := by show digB c = true; unfold digB; simp [h1, h2]
      go_enter Tryz.func215, Tryz.ntmps215
      go_wp2
      go_ret
      exact ⟨by rw [HE.out]; rfl, rfl⟩
    · have HE : Hid (digB c = false) := by show digB c = false; unfold digB; simp; omega
      go_enter Tryz.func215, Tryz.ntmps215
      go_wp2
      go_ret
      exact ⟨by rw [HE.out]; rfl, rfl⟩
  · have HE : Hid (digB c = false) := by show digB c = false; unfold digB; simp; omega
    go_enter Tryz.func215, Tryz.ntmps215
    go_wp2
    go_ret
    exact ⟨by rw [HE.out]; rfl, rfl⟩

set_option maxRecDepth 100000 in
set_option maxHeartbeats 1000000 in
theorem ref13_Name (s : ByteArray) (w : World) (hs : s.size ≤ maxLen) :
    Calls Tryz.prog 128 #[.string s] w fun e w' => e = .returned (.bool (nameB s)) ∧ w' = w := by
  unfold maxLen at hs
  by_cases h0 : s.size = 0
  · have HE : Hid (nameB s = false) := by show nameB s = false; unfold nameB; rw [decide_eq_false_iff_not]; intro h; have := h.1; have := h.2.1; omega
    have e0 : ((s.size : Int) < 1) = True := by simp; omega
    go_enter Tryz.func128, Tryz.ntmps128
    go_wp2_with fail
    go_ret
    exact ⟨by rw [HE.out]; rfl, rfl⟩
  · have hp : 0 < s.size := by omega
    have e0 : ((s.size : Int) < 1) = False := by simp; omega
    clear h0
    by_cases h20 : 20 < s.size
    · have HE : Hid (nameB s = false) := by show nameB s = false; unfold nameB; rw [decide_eq_false_iff_not]; intro h; have := h.2.1; omega
      have e1 : ((20 : Int) < (s.size : Int)) = True := by simp; omega
      go_enter Tryz.func128, Tryz.ntmps128
      go_wp2_with fail
      go_ret
      exact ⟨by rw [HE.out]; rfl, rfl⟩
    · have e1 : ((20 : Int) < (s.size : Int)) = False := by simp; omega
      have HL := Lib.hid (byteAt_lt s hp)
      go_enter Tryz.func128, Tryz.ntmps128
      go_wp2_with fail
      refine (ref13_letter _ _).mono ?_
      rintro e w1 ⟨rfl, rfl⟩
      by_cases hl : letB (byteAt s 0) = true
      · have hl2 : letB ((s[0].toNat : Nat) : Int) = true := by rw [← byteAt_lt s hp]; exact hl
        have HH := Lib.hid hl
        clear hl
        rw [hl2]
        go_wp2_with fail
        go_loop [3] (fun i => ∃ k : Nat, k ≤ s.size ∧ i = .int .i64 k ∧ ∀ j, j < k → chB (byteAt s j) = true) (fun i => s.size - (intOf i).toNat)
        case atStart => exact ⟨0, Nat.zero_le _, rfl, fun j hj => absurd hj (by omega)⟩
        case round =>
          obtain ⟨k, hk, rfl, hA⟩ := hrel
          have HA := Lib.hid hA
          clear hA
          by_cases hlt : k < s.size
          · have hbk := byteAt_lt s hlt
            by_cases hlk : letB ((s[k].toNat : Nat) : Int) = true
            · have HN : Hid (∀ j, j < k + 1 → chB (byteAt s j) = true) := by
                intro j hj
                rcases (by omega : j < k ∨ j = k) with h | rfl
                · exact HA.out j h
                · rw [hbk]; unfold chB; rw [hlk]; rfl
              have HB := Lib.hid hbk
              clear hbk
              go_wp2_with fail
              refine (ref13_letter _ _).mono ?_
              rintro e w1 ⟨rfl, rfl⟩
              rw [hlk]
              go_wp2_with fail
              go_round
              case rel => exact ⟨k + 1, by omega, by go_num, HN.out⟩
              case measure => simp [intOf]; omega
            · have hlk2 : letB ((s[k].toNat : Nat) : Int) = false := by simpa using hlk
              clear hlk
              by_cases hd : 48 ≤ ((s[k].toNat : Nat) : Int) ∧ ((s[k].toNat : Nat) : Int) ≤ 57
              · have HN : Hid (∀ j, j < k + 1 → chB (byteAt s j) = true) := by
                  intro j hj
                  rcases (by omega : j < k ∨ j = k) with h | rfl
                  · exact HA.out j h
                  · rw [hbk]; unfold chB; rw [hlk2, decide_eq_true hd]; rfl
                have HB := Lib.hid hbk
                have hdB : Hid (digB ((s[k].toNat : Nat) : Int) = true) := by show digB _ = true; unfold digB; rw [decide_eq_true hd]
                clear hbk
                go_wp2_with fail
                refine (ref13_letter _ _).mono ?_
                rintro e w1 ⟨rfl, rfl⟩
                rw [hlk2]
                go_wp2_with fail
                refine (ref13_digit _ _).mono ?_
                rintro e w1 ⟨rfl, rfl⟩
                rw [hdB.out]
                go_wp2_with fail
                go_round
                case rel => exact ⟨k + 1, by omega, by go_num, HN.out⟩
                case measure => simp [intOf]; omega
              · have HE : Hid (nameB s = false) := by
                  show nameB s = false
                  unfold nameB; rw [decide_eq_false_iff_not]; intro h
                  have h2 := h.2.2.2 k hlt
                  rw [hbk] at h2; unfold chB at h2; rw [hlk2, decide_eq_false hd] at h2; cases h2
                have HB := Lib.hid hbk
                clear hbk
                have hdB : Hid (digB ((s[k].toNat : Nat) : Int) = false) := by show digB _ = false; unfold digB; rw [decide_eq_false hd]
                clear hd
                go_wp2_with fail
                refine (ref13_letter _ _).mono ?_
                rintro e w1 ⟨rfl, rfl⟩
                rw [hlk2]
                go_wp2_with fail
                refine (ref13_digit _ _).mono ?_
                rintro e w1 ⟨rfl, rfl⟩
                rw [hdB.out]
                go_wp2_with fail
                go_ret
                exact ⟨by rw [HE.out]; rfl, rfl⟩
          · have HE : Hid (nameB s = true) := by
              show nameB s = true
              unfold nameB; rw [decide_eq_true_iff]
              exact ⟨hp, by omega, HH.out, fun j hj => HA.out j (by omega)⟩
            go_wp2_with fail
            go_ret
            exact ⟨by rw [HE.out]; rfl, rfl⟩
      · have HE : Hid (nameB s = false) := by show nameB s = false; unfold nameB; rw [decide_eq_false_iff_not]; intro h; exact hl h.2.2.1
        have hl2 : letB ((s[0].toNat : Nat) : Int) = false := by rw [← byteAt_lt s hp]; simpa using hl
        clear hl
        go_wp2_with fail
        go_ret
        exact ⟨by rw [HE.out]; rfl, rfl⟩
end Go.Proofs.YtcbkijeonilcjaaGreat
