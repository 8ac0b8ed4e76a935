/- Package gauss: looks at numbers, Mul, Int. -/
import Derived.Test.YtcbkijeonilcjaaGreatHC15
namespace Go.Proofs.YtcbkijeonilcjaaGreat
open Go.RowKit

theorem chk2_zero (b : Int) : chk2 0 b = b := rfl
theorem chk2_ne {a : Int} (h : a ≠ 0) (b : Int) : chk2 a b = a := by unfold chk2; rw [if_neg h]

def ek (e c1 c2 : Int) : Nat → Int
  | 0 => e
  | 1 => chk2 e c1
  | _ => chk2 (chk2 e c1) c2
set_option maxHeartbeats 1000000 in
theorem way_check {p b : Nat} {e : Int} {g1 g2 : Bool} {A1 A1' A2 A2' : Option Addr} {n1 n1' n2 n2' c1 c1' c2 c2' : Nat} {l1 l1' l2 l2' : List Nat} (w : World) (hp : Way w p e)
    (hb : w.heap[b]? = some (.cells #[.bool g1, .slice A1 n1 c1, .slice A1' n1' c1', .bool g2, .slice A2 n2 c2, .slice A2' n2' c2'] 24 (0, 0)))
    (h1 : Rd w A1 n1 c1 l1) (h1' : Rd w A1' n1' c1' l1') (h2 : Rd w A2 n2 c2 l2) (h2' : Rd w A2' n2' c2' l2') :
    Calls Tryz.prog 298 #[.pointer (some ⟨p, 0, none⟩), .slice (some ⟨b, 0, none⟩) 2 2] w fun e1 w' => e1 = .returned (.tuple #[]) ∧ Way w' p (chk2 (chk2 e (chkR g1 l1 l1')) (chkR g2 l2 l2')) ∧ BelX p w w' := by
  have hne : b ≠ p := by
    rintro rfl
    unfold Way at hp; rw [hb] at hp; injection hp with hp; injection hp with _ hp; exact absurd hp (by decide)
  have HP := Lib.hid hp
  have HB := Lib.hid hb
  have HQ := Lib.hid (And.intro (And.intro h1 h1') (And.intro h2 h2'))
  clear hp hb h1 h1' h2 h2'
  go_enter Tryz.func298, Tryz.ntmps298
  go_wp2
  go_loopw [8] (fun iv wr => ∃ k : Nat, iv = .int .i64 k ∧ k ≤ 2 ∧ Way wr p (ek e (chkR g1 l1 l1') (chkR g2 l2 l2') k) ∧ BelX p w wr) (fun iv _ => 2 - (intOf iv).toNat)
  case atStart => exact ⟨0, rfl, by omega, HP.out, BelX.refl _ _⟩
  case round =>
    obtain ⟨k, rfl, hk, hW, hB⟩ := hrel
    rcases (by omega : k = 0 ∨ k = 1 ∨ k = 2) with rfl | rfl | rfl
    · have hq := HQ.out.1
      have hW : Way wr p e := hW
      obtain ⟨⟨z0, z1, z2⟩, _⟩ := cell6 (hB.keep HB.out hne)
      obtain ⟨wr', hwr'⟩ : ∃ x, wr.alloc (.cells #[.bool g1, .slice A1 n1 c1, .slice A1' n1' c1'] 24) = x := ⟨_, rfl⟩
      have hal : Below wr.heap.size wr wr' := by rw [← hwr']; exact (Below.refl _ _).alloc (Nat.le_refl _) _
      have hW' := hW.below hal
      obtain ⟨w0, w1⟩ := hW'.cell
      have hbx : wr'.heap[wr.heap.size]? = some (.cells #[.bool g1, .slice A1 n1 c1, .slice A1' n1' c1'] 24) := by rw [← hwr']; exact heap_alloc_new wr _
      obtain ⟨b0, b1, b2, _, _, _⟩ := cell3 hbx
      have HX := Lib.hid (And.intro hW' (And.intro (hB.trans (toX hal p)) (And.intro ((hq.1.x HP.out hB).below hal) ((hq.2.x HP.out hB).below hal))))
      clear hW hB hW' hal hbx
      by_cases he : e = 0
      · have e1 : (e == 0) = true := by simp [he]
        have HE : Hid (chk2 (e) (chkR g1 l1 l1') = chkR g1 l1 l1') := by show chk2 _ _ = _; rw [he]; rfl
        clear he
        go_wp2_with fail
        have HWR := Lib.hid hwr'
        clear hwr' w0 w1 e1
        refine (ratio_Check g1 A1 A1' _ _ _ _ l1 l1' _ HX.out.2.2.1 HX.out.2.2.2).mono ?_
        rintro e1 w3 ⟨rfl, hB3⟩
        have hW3 := HX.out.1.below hB3
        obtain ⟨w0, w1⟩ := hW3.cell
        have HS := Lib.hid (And.intro (hW3.set (chkR g1 l1 l1')) (HX.out.2.1.trans (toX hB3 p)))
        clear hB3 hW3
        go_wp2_with fail
        go_roundw
        case measure => simp [intOf]
        case rel => exact ⟨1, rfl, by omega, by show Way _ _ (chk2 (e) (chkR g1 l1 l1')); rw [HE.out]; exact HS.out.1.1, HS.out.2.trans HS.out.1.2⟩
      · have e1 : (e == 0) = false := by simp [he]
        have HE : Hid (chk2 (e) (chkR g1 l1 l1') = e) := chk2_ne he _
        clear he
        go_wp2_with fail
        have HWR := Lib.hid hwr'
        clear hwr' w0 w1 e1
        go_roundw
        case measure => simp [intOf]
        case rel => exact ⟨1, rfl, by omega, by show Way _ _ (chk2 (e) (chkR g1 l1 l1')); rw [HE.out]; exact HX.out.1, HX.out.2.1⟩
    · have hq := HQ.out.2
      have hW : Way wr p (chk2 e (chkR g1 l1 l1')) := hW
      obtain ⟨_, z0, z1, z2⟩ := cell6 (hB.keep HB.out hne)
      obtain ⟨wr', hwr'⟩ : ∃ x, wr.alloc (.cells #[.bool g2, .slice A2 n2 c2, .slice A2' n2' c2'] 24) = x := ⟨_, rfl⟩
      have hal : Below wr.heap.size wr wr' := by rw [← hwr']; exact (Below.refl _ _).alloc (Nat.le_refl _) _
      have hW' := hW.below hal
      obtain ⟨w0, w1⟩ := hW'.cell
      have hbx : wr'.heap[wr.heap.size]? = some (.cells #[.bool g2, .slice A2 n2 c2, .slice A2' n2' c2'] 24) := by rw [← hwr']; exact heap_alloc_new wr _
      obtain ⟨b0, b1, b2, _, _, _⟩ := cell3 hbx
      have HX := Lib.hid (And.intro hW' (And.intro (hB.trans (toX hal p)) (And.intro ((hq.1.x HP.out hB).below hal) ((hq.2.x HP.out hB).below hal))))
      clear hW hB hW' hal hbx
      by_cases he : chk2 e (chkR g1 l1 l1') = 0
      · have e1 : (chk2 e (chkR g1 l1 l1') == 0) = true := by simp [he]
        have HE : Hid (chk2 (chk2 e (chkR g1 l1 l1')) (chkR g2 l2 l2') = chkR g2 l2 l2') := by show chk2 _ _ = _; rw [he]; rfl
        clear he
        go_wp2_with fail
        have HWR := Lib.hid hwr'
        clear hwr' w0 w1 e1
        refine (ratio_Check g2 A2 A2' _ _ _ _ l2 l2' _ HX.out.2.2.1 HX.out.2.2.2).mono ?_
        rintro e1 w3 ⟨rfl, hB3⟩
        have hW3 := HX.out.1.below hB3
        obtain ⟨w0, w1⟩ := hW3.cell
        have HS := Lib.hid (And.intro (hW3.set (chkR g2 l2 l2')) (HX.out.2.1.trans (toX hB3 p)))
        clear hB3 hW3
        go_wp2_with fail
        go_roundw
        case measure => simp [intOf]
        case rel => exact ⟨2, rfl, by omega, by show Way _ _ (chk2 (chk2 e (chkR g1 l1 l1')) (chkR g2 l2 l2')); rw [HE.out]; exact HS.out.1.1, HS.out.2.trans HS.out.1.2⟩
      · have e1 : (chk2 e (chkR g1 l1 l1') == 0) = false := by simp [he]
        have HE : Hid (chk2 (chk2 e (chkR g1 l1 l1')) (chkR g2 l2 l2') = chk2 e (chkR g1 l1 l1')) := chk2_ne he _
        clear he
        go_wp2_with fail
        have HWR := Lib.hid hwr'
        clear hwr' w0 w1 e1
        go_roundw
        case measure => simp [intOf]
        case rel => exact ⟨2, rfl, by omega, by show Way _ _ (chk2 (chk2 e (chkR g1 l1 l1')) (chkR g2 l2 l2')); rw [HE.out]; exact HX.out.1, HX.out.2.1⟩
    · have HF := Lib.hid (And.intro (show Way wr p (chk2 (chk2 e (chkR g1 l1 l1')) (chkR g2 l2 l2')) from hW) hB)
      clear hW hB
      go_wp2
      go_end0
      exact ⟨rfl, HF.out.1, HF.out.2⟩

theorem cell12 {w : World} {b : Nat} {x y z x' y' z' s t u s' t' u' : Value} {T : TypeId} (h : w.heap[b]? = some (.cells #[x, y, z, x', y', z', s, t, u, s', t', u'] T)) :
    (w.cell? ⟨b, 0, none⟩ = some x ∧ w.cell? ⟨b, 1, none⟩ = some y ∧ w.cell? ⟨b, 2, none⟩ = some z ∧ w.cell? ⟨b, 3, none⟩ = some x' ∧ w.cell? ⟨b, 4, none⟩ = some y' ∧ w.cell? ⟨b, 5, none⟩ = some z') ∧ w.cell? ⟨b, 6, none⟩ = some s ∧ w.cell? ⟨b, 7, none⟩ = some t ∧ w.cell? ⟨b, 8, none⟩ = some u ∧ w.cell? ⟨b, 9, none⟩ = some s' ∧ w.cell? ⟨b, 10, none⟩ = some t' ∧ w.cell? ⟨b, 11, none⟩ = some u' := by
  refine ⟨⟨?_, ?_, ?_, ?_, ?_, ?_⟩, ?_, ?_, ?_, ?_, ?_, ?_⟩ <;> simp [World.cell?, h]

set_option maxHeartbeats 1000000 in
theorem gauss_asked1 {b : Nat} {g1 g2 : Bool} {A1 A1' A2 A2' : Option Addr} {n1 n1' n2 n2' c1 c1' c2 c2' : Nat} {l1 l1' l2 l2' : List Nat} (w : World)
    (hb : w.heap[b]? = some (.cells #[.bool g1, .slice A1 n1 c1, .slice A1' n1' c1', .bool g2, .slice A2 n2 c2, .slice A2' n2' c2'] 83 (0, 0)))
    (h1 : Rd w A1 n1 c1 l1) (h1' : Rd w A1' n1' c1' l1') (h2 : Rd w A2 n2 c2 l2) (h2' : Rd w A2' n2' c2' l2') :
    Calls Tryz.prog 234 #[.slice (some ⟨b, 0, none⟩) 1 1] w fun e1 w' => e1 = .returned (.pointer (some ⟨w.heap.size, 0, none⟩)) ∧ Way w' w.heap.size (chk2 (chk2 0 (chkR g1 l1 l1')) (chkR g2 l2 l2')) ∧ Below w.heap.size w w' := by
  have HB := Lib.hid hb
  have hbl := heap_lt hb
  have HQ := Lib.hid (And.intro h1 (And.intro h1' (And.intro h2 h2')))
  clear hb h1 h1' h2 h2'
  obtain ⟨w0', hw0'⟩ : ∃ x, w.alloc (.cells #[.int .i64 0] 251) = x := ⟨_, rfl⟩
  have hal : Below w.heap.size w w0' := by rw [← hw0']; exact (Below.refl _ _).alloc (Nat.le_refl _) _
  have hW0 : Way w0' w.heap.size 0 := by rw [← hw0']; exact heap_alloc_new w _
  have HA := Lib.hid (And.intro hW0 hal)
  clear hal hW0
  go_enter Tryz.func234, Tryz.ntmps234
  go_wp2
  have HW0 := Lib.hid hw0'
  clear hw0'
  go_loopw [9] (fun iv wr => ∃ k : Nat, iv = .int .i64 k ∧ k ≤ 1 ∧ Way wr w.heap.size (match k with | 0 => 0 | _ => chk2 (chk2 0 (chkR g1 l1 l1')) (chkR g2 l2 l2')) ∧ Below w.heap.size w wr) (fun iv _ => 1 - (intOf iv).toNat)
  case atStart => exact ⟨0, rfl, by omega, HA.out.1, HA.out.2⟩
  case round =>
    obtain ⟨k, rfl, hk, hW, hB⟩ := hrel
    rcases (by omega : k = 0 ∨ k = 1) with rfl | rfl
    · have hq := HQ.out
      have hW : Way wr w.heap.size 0 := hW
      obtain ⟨⟨z0, z1, z2⟩, z3, z4, z5⟩ := cell6 ((hB.block b hbl).trans HB.out)
      obtain ⟨wr', hwr'⟩ : ∃ x, (wr.alloc (.cells #[.bool g1, .slice A1 n1 c1, .slice A1' n1' c1', .bool g2, .slice A2 n2 c2, .slice A2' n2' c2'] 83)).alloc (.cells #[.bool g1, .slice A1 n1 c1, .slice A1' n1' c1', .bool g2, .slice A2 n2 c2, .slice A2' n2' c2'] 24) = x := ⟨_, rfl⟩
      have hal : Below wr.heap.size wr wr' := by rw [← hwr']; exact ((Below.refl _ _).alloc (Nat.le_refl _) _).alloc (by simp) _
      have hbx : wr'.heap[wr.heap.size + 1]? = some (.cells #[.bool g1, .slice A1 n1 c1, .slice A1' n1' c1', .bool g2, .slice A2 n2 c2, .slice A2' n2' c2'] 24 (0, 0)) := by rw [← hwr']; simpa using heap_alloc_new (wr.alloc _) _
      have HX := Lib.hid (And.intro (hW.below hal) (And.intro (hB.trans (hal.mono hB.size)) (And.intro hbx (And.intro ((hq.1.below hB).below hal) (And.intro ((hq.2.1.below hB).below hal) (And.intro ((hq.2.2.1.below hB).below hal) ((hq.2.2.2.below hB).below hal)))))))
      clear hW hB hal hbx
      go_wp2_with fail
      have HWR := Lib.hid hwr'
      clear hwr' z0 z1 z2 z3 z4 z5
      refine (way_check _ HX.out.1 HX.out.2.2.1 HX.out.2.2.2.1 HX.out.2.2.2.2.1 HX.out.2.2.2.2.2.1 HX.out.2.2.2.2.2.2).mono ?_
      rintro e1 w3 ⟨rfl, hW3, hX3⟩
      have HS := Lib.hid (And.intro hW3 (HX.out.2.1.trans (hX3.below (Nat.le_refl _) HX.out.2.1.size)))
      clear hW3 hX3
      go_wp2_with fail
      go_roundw
      case measure => simp [intOf]
      case rel => exact ⟨1, rfl, by omega, HS.out.1, HS.out.2⟩
    · have HF := Lib.hid (And.intro (show Way wr w.heap.size (chk2 (chk2 0 (chkR g1 l1 l1')) (chkR g2 l2 l2')) from hW) hB)
      clear hW hB
      go_wp2
      go_ret
      exact ⟨rfl, HF.out.1, HF.out.2⟩

set_option maxHeartbeats 1000000 in
theorem gauss_asked2 {b : Nat} {g1 g2 g3 g4 : Bool} {A1 A1' A2 A2' A3 A3' A4 A4' : Option Addr} {n1 n1' n2 n2' n3 n3' n4 n4' c1 c1' c2 c2' c3 c3' c4 c4' : Nat} {l1 l1' l2 l2' l3 l3' l4 l4' : List Nat} (w : World)
    (hb : w.heap[b]? = some (.cells #[.bool g1, .slice A1 n1 c1, .slice A1' n1' c1', .bool g2, .slice A2 n2 c2, .slice A2' n2' c2', .bool g3, .slice A3 n3 c3, .slice A3' n3' c3', .bool g4, .slice A4 n4 c4, .slice A4' n4' c4'] 83 (0, 0)))
    (h1 : Rd w A1 n1 c1 l1) (h1' : Rd w A1' n1' c1' l1') (h2 : Rd w A2 n2 c2 l2) (h2' : Rd w A2' n2' c2' l2') (h3 : Rd w A3 n3 c3 l3) (h3' : Rd w A3' n3' c3' l3') (h4 : Rd w A4 n4 c4 l4) (h4' : Rd w A4' n4' c4' l4') :
    Calls Tryz.prog 234 #[.slice (some ⟨b, 0, none⟩) 2 2] w fun e1 w' => e1 = .returned (.pointer (some ⟨w.heap.size, 0, none⟩)) ∧ Way w' w.heap.size (chk2 (chk2 (chk2 (chk2 0 (chkR g1 l1 l1')) (chkR g2 l2 l2')) (chkR g3 l3 l3')) (chkR g4 l4 l4')) ∧ Below w.heap.size w w' := by
  have HB := Lib.hid hb
  have hbl := heap_lt hb
  have HQ := Lib.hid (And.intro h1 (And.intro h1' (And.intro h2 h2')))
  have HQ2 := Lib.hid (And.intro h3 (And.intro h3' (And.intro h4 h4')))
  clear hb h1 h1' h2 h2' h3 h3' h4 h4'
  obtain ⟨w0', hw0'⟩ : ∃ x, w.alloc (.cells #[.int .i64 0] 251) = x := ⟨_, rfl⟩
  have hal : Below w.heap.size w w0' := by rw [← hw0']; exact (Below.refl _ _).alloc (Nat.le_refl _) _
  have hW0 : Way w0' w.heap.size 0 := by rw [← hw0']; exact heap_alloc_new w _
  have HA := Lib.hid (And.intro hW0 hal)
  clear hal hW0
  go_enter Tryz.func234, Tryz.ntmps234
  go_wp2
  have HW0 := Lib.hid hw0'
  clear hw0'
  go_loopw [9] (fun iv wr => ∃ k : Nat, iv = .int .i64 k ∧ k ≤ 2 ∧ Way wr w.heap.size (match k with | 0 => 0 | 1 => chk2 (chk2 0 (chkR g1 l1 l1')) (chkR g2 l2 l2') | _ => (chk2 (chk2 (chk2 (chk2 0 (chkR g1 l1 l1')) (chkR g2 l2 l2')) (chkR g3 l3 l3')) (chkR g4 l4 l4'))) ∧ Below w.heap.size w wr) (fun iv _ => 2 - (intOf iv).toNat)
  case atStart => exact ⟨0, rfl, by omega, HA.out.1, HA.out.2⟩
  case round =>
    obtain ⟨k, rfl, hk, hW, hB⟩ := hrel
    rcases (by omega : k = 0 ∨ k = 1 ∨ k = 2) with rfl | rfl | rfl
    · have hq := HQ.out
      have hW : Way wr w.heap.size 0 := hW
      obtain ⟨⟨z0, z1, z2, z3, z4, z5⟩, _⟩ := cell12 ((hB.block b hbl).trans HB.out)
      obtain ⟨wr', hwr'⟩ : ∃ x, (wr.alloc (.cells #[.bool g1, .slice A1 n1 c1, .slice A1' n1' c1', .bool g2, .slice A2 n2 c2, .slice A2' n2' c2'] 83)).alloc (.cells #[.bool g1, .slice A1 n1 c1, .slice A1' n1' c1', .bool g2, .slice A2 n2 c2, .slice A2' n2' c2'] 24) = x := ⟨_, rfl⟩
      have hal : Below wr.heap.size wr wr' := by rw [← hwr']; exact ((Below.refl _ _).alloc (Nat.le_refl _) _).alloc (by simp) _
      have hbx : wr'.heap[wr.heap.size + 1]? = some (.cells #[.bool g1, .slice A1 n1 c1, .slice A1' n1' c1', .bool g2, .slice A2 n2 c2, .slice A2' n2' c2'] 24 (0, 0)) := by rw [← hwr']; simpa using heap_alloc_new (wr.alloc _) _
      have HX := Lib.hid (And.intro (hW.below hal) (And.intro (hB.trans (hal.mono hB.size)) (And.intro hbx (And.intro ((hq.1.below hB).below hal) (And.intro ((hq.2.1.below hB).below hal) (And.intro ((hq.2.2.1.below hB).below hal) ((hq.2.2.2.below hB).below hal)))))))
      clear hW hB hal hbx
      go_wp2_with fail
      have HWR := Lib.hid hwr'
      clear hwr' z0 z1 z2 z3 z4 z5
      refine (way_check _ HX.out.1 HX.out.2.2.1 HX.out.2.2.2.1 HX.out.2.2.2.2.1 HX.out.2.2.2.2.2.1 HX.out.2.2.2.2.2.2).mono ?_
      rintro e1 w3 ⟨rfl, hW3, hX3⟩
      have HS := Lib.hid (And.intro hW3 (HX.out.2.1.trans (hX3.below (Nat.le_refl _) HX.out.2.1.size)))
      clear hW3 hX3
      go_wp2_with fail
      go_roundw
      case measure => simp [intOf]
      case rel => exact ⟨1, rfl, by omega, HS.out.1, HS.out.2⟩
    · have hq := HQ2.out
      have hW : Way wr w.heap.size (chk2 (chk2 0 (chkR g1 l1 l1')) (chkR g2 l2 l2')) := hW
      obtain ⟨_, z0, z1, z2, z3, z4, z5⟩ := cell12 ((hB.block b hbl).trans HB.out)
      obtain ⟨wr', hwr'⟩ : ∃ x, (wr.alloc (.cells #[.bool g3, .slice A3 n3 c3, .slice A3' n3' c3', .bool g4, .slice A4 n4 c4, .slice A4' n4' c4'] 83)).alloc (.cells #[.bool g3, .slice A3 n3 c3, .slice A3' n3' c3', .bool g4, .slice A4 n4 c4, .slice A4' n4' c4'] 24) = x := ⟨_, rfl⟩
      have hal : Below wr.heap.size wr wr' := by rw [← hwr']; exact ((Below.refl _ _).alloc (Nat.le_refl _) _).alloc (by simp) _
      have hbx : wr'.heap[wr.heap.size + 1]? = some (.cells #[.bool g3, .slice A3 n3 c3, .slice A3' n3' c3', .bool g4, .slice A4 n4 c4, .slice A4' n4' c4'] 24 (0, 0)) := by rw [← hwr']; simpa using heap_alloc_new (wr.alloc _) _
      have HX := Lib.hid (And.intro (hW.below hal) (And.intro (hB.trans (hal.mono hB.size)) (And.intro hbx (And.intro ((hq.1.below hB).below hal) (And.intro ((hq.2.1.below hB).below hal) (And.intro ((hq.2.2.1.below hB).below hal) ((hq.2.2.2.below hB).below hal)))))))
      clear hW hB hal hbx
      go_wp2_with fail
      have HWR := Lib.hid hwr'
      clear hwr' z0 z1 z2 z3 z4 z5
      refine (way_check _ HX.out.1 HX.out.2.2.1 HX.out.2.2.2.1 HX.out.2.2.2.2.1 HX.out.2.2.2.2.2.1 HX.out.2.2.2.2.2.2).mono ?_
      rintro e1 w3 ⟨rfl, hW3, hX3⟩
      have HS := Lib.hid (And.intro hW3 (HX.out.2.1.trans (hX3.below (Nat.le_refl _) HX.out.2.1.size)))
      clear hW3 hX3
      go_wp2_with fail
      go_roundw
      case measure => simp [intOf]
      case rel => exact ⟨2, rfl, by omega, HS.out.1, HS.out.2⟩
    · have HF := Lib.hid (And.intro (show Way wr w.heap.size (chk2 (chk2 (chk2 (chk2 0 (chkR g1 l1 l1')) (chkR g2 l2 l2')) (chkR g3 l3 l3')) (chkR g4 l4 l4')) from hW) hB)
      clear hW hB
      go_wp2
      go_ret
      exact ⟨rfl, HF.out.1, HF.out.2⟩
end Go.Proofs.YtcbkijeonilcjaaGreat

/- Package gauss: Mul, Check, Int. -/
namespace Go.Proofs.YtcbkijeonilcjaaGreat
open Go.RowKit

/-- the zero value -/
def g0 : Value := .agg #[.bool false, .slice none 0 0, .slice none 0 0, .bool false, .slice none 0 0, .slice none 0 0]

def set6 (w : World) (b : Nat) (x y z x' y' z' : Value) : World := (((((w.setCell ⟨b, 0, none⟩ x).setCell ⟨b, 1, none⟩ y).setCell ⟨b, 2, none⟩ z).setCell ⟨b, 3, none⟩ x').setCell ⟨b, 4, none⟩ y').setCell ⟨b, 5, none⟩ z'
theorem cell_set6 {w : World} {b b' o : Nat} {u x y z x' y' z' : Value} (h : w.cell? ⟨b', o, none⟩ = some u) (hne : b' ≠ b) : (set6 w b x y z x' y' z').cell? ⟨b', o, none⟩ = some u := by
  unfold set6
  rw [World.cell?_setCell_far _ _ _ _ (Ne.symm hne), World.cell?_setCell_far _ _ _ _ (Ne.symm hne), World.cell?_setCell_far _ _ _ _ (Ne.symm hne), World.cell?_setCell_far _ _ _ _ (Ne.symm hne), World.cell?_setCell_far _ _ _ _ (Ne.symm hne), World.cell?_setCell_far _ _ _ _ (Ne.symm hne)]; exact h
theorem below_set6 {B b : Nat} {a w : World} (h : Below B a w) (hb : B ≤ b) (x y z x' y' z' : Value) : Below B a (set6 w b x y z x' y' z') := (((((h.setCell hb _).setCell hb _).setCell hb _).setCell hb _).setCell hb _).setCell hb _
theorem set6_size (w : World) (b : Nat) (x y z x' y' z' : Value) : (set6 w b x y z x' y' z').heap.size = w.heap.size := by simp [set6]
theorem OwnR.set6 {T : TypeId} {w : World} {lo hi b : Nat} {v x y z x' y' z' : Value} {l : List Nat} (h : OwnR T w lo hi v l) (hb : b < lo) : OwnR T (set6 w b x y z x' y' z') lo hi v l := (((((h.setc hb).setc hb).setc hb).setc hb).setc hb).setc hb
theorem RtO.set6 {T : TypeId} {w : World} {lo hi b : Nat} {v x y z x' y' z' : Value} {r : Rat} (h : RtO T w lo hi v r) (hb : b < lo) : RtO T (set6 w b x y z x' y' z') lo hi v r := by
  obtain ⟨vn, vd, m, rfl, h1, h2, h3, h4⟩ := h
  exact ⟨vn, vd, m, rfl, h1, h2, h3.set6 hb, h4.set6 (by omega)⟩
theorem free6 {w : World} {b : Nat} {x y z x' y' z' : Value} {T : TypeId} (h : w.heap[b]? = some (.cells #[x, y, z, x', y', z'] T)) :
    w.frozen? ⟨b, 0, none⟩ = false ∧ w.frozen? ⟨b, 1, none⟩ = false ∧ w.frozen? ⟨b, 2, none⟩ = false ∧ w.frozen? ⟨b, 3, none⟩ = false ∧ w.frozen? ⟨b, 4, none⟩ = false ∧ w.frozen? ⟨b, 5, none⟩ = false := by
  refine ⟨?_, ?_, ?_, ?_, ?_, ?_⟩ <;> simp [World.frozen?, h]
set_option maxHeartbeats 1000000 in
theorem way_told_ok {p : Nat} {g1 g2 : Bool} {A1 A1' A2 A2' : Option Addr} {n1 n1' n2 n2' c1 c1' c2 c2' : Nat} (w : World) (hp : Way w p 0) :
    Calls Tryz.prog 245 #[.pointer (some ⟨p, 0, none⟩), .agg #[.bool g1, .slice A1 n1 c1, .slice A1' n1' c1'], .agg #[.bool g2, .slice A2 n2 c2, .slice A2' n2' c2']] w fun e1 w' => e1 = .returned (.tuple #[.agg #[.bool g1, .slice A1 n1 c1, .slice A1' n1' c1', .bool g2, .slice A2 n2 c2, .slice A2' n2' c2'], .int .i64 0]) ∧ Below w.heap.size w w' := by
  obtain ⟨W0, hW0⟩ : ∃ x,
    (((w.alloc (.cells #[.bool g1, .slice A1 n1 c1, .slice A1' n1' c1'] 24)).alloc (.cells #[.bool g2, .slice A2 n2 c2, .slice A2' n2' c2'] 24)).alloc (.cells #[.bool false, .slice none 0 0, .slice none 0 0, .bool false, .slice none 0 0, .slice none 0 0] 83)) = x := ⟨_, rfl⟩
  have hb : Below w.heap.size w W0 := by rw [← hW0]; exact (((Below.refl _ _).alloc (Nat.le_refl _) _).alloc (by simp) _).alloc (by simp; omega) _
  obtain ⟨q0, q1⟩ := (hp.below hb).cell
  rw [← hW0] at q0 q1
  clear hb hW0 hp
  go_enter Tryz.func245, Tryz.ntmps245
  go_wp2
  exact bodyPost_ret (v := .tuple #[.agg #[.bool g1, .slice A1 n1 c1, .slice A1' n1' c1', .bool g2, .slice A2 n2 c2, .slice A2' n2' c2'], .int .i64 0]) (by simp [results, Tryz.results245, go_sem]) rfl ⟨rfl, (((Below.refl _ _).alloc (Nat.le_refl _) _).alloc (by simp) _).alloc (by simp; omega) _⟩

set_option maxRecDepth 100000 in
set_option maxHeartbeats 1000000 in
theorem way_told_no {p : Nat} {e : Int} {g1 g2 : Bool} {A1 A1' A2 A2' : Option Addr} {n1 n1' n2 n2' c1 c1' c2 c2' : Nat} (w : World) (hp : Way w p e) (he : e ≠ 0) :
    Calls Tryz.prog 245 #[.pointer (some ⟨p, 0, none⟩), .agg #[.bool g1, .slice A1 n1 c1, .slice A1' n1' c1'], .agg #[.bool g2, .slice A2 n2 c2, .slice A2' n2' c2']] w fun e1 w' => e1 = .returned (.tuple #[g0, .int .i64 e]) ∧ Below w.heap.size w w' := by
  obtain ⟨W0, hW0⟩ : ∃ x,
    (((w.alloc (.cells #[.bool g1, .slice A1 n1 c1, .slice A1' n1' c1'] 24)).alloc (.cells #[.bool g2, .slice A2 n2 c2, .slice A2' n2' c2'] 24)).alloc (.cells #[.bool false, .slice none 0 0, .slice none 0 0, .bool false, .slice none 0 0, .slice none 0 0] 83)) = x := ⟨_, rfl⟩
  have hb : Below w.heap.size w W0 := by rw [← hW0]; exact (((Below.refl _ _).alloc (Nat.le_refl _) _).alloc (by simp) _).alloc (by simp; omega) _
  have hr : W0.heap[w.heap.size + 1 + 1]? = some (.cells #[.bool false, .slice none 0 0, .slice none 0 0, .bool false, .slice none 0 0, .slice none 0 0] 83) := by
    rw [← hW0]; simpa using heap_alloc_new ((w.alloc _).alloc _) _
  have hW := hp.below hb
  obtain ⟨q0, q1⟩ := hW.cell
  have e1 : (e != 0) = true := by simp [he]
  have hpl := hp.lt
  have HB := Lib.hid (And.intro hW (And.intro hb hr))
  clear hb hp he hW hr
  go_enter Tryz.func245, Tryz.ntmps245
  go_wp2_with fail
  have HW0 := Lib.hid hW0
  clear hW0
  obtain ⟨⟨r0, r1, r2⟩, r3, r4, r5⟩ := cell6 HB.out.2.2
  obtain ⟨s0, s1, s2, s3, s4, s5⟩ := free6 HB.out.2.2
  have hne : p ≠ w.heap.size + 1 + 1 := by omega
  have hb2 : w.heap.size + 1 + 1 < W0.heap.size := heap_lt HB.out.2.2
  go_region
  go_wp2_with fail
  exact bodyPost_ret (v := .tuple #[g0, .int .i64 e]) (by simp [g0, results, Tryz.results245, go_sem, r0, r1, r2, r3, r4, r5]) rfl ⟨rfl, (below_set6 HB.out.2.1 (by omega) _ _ _ _ _ _).drew⟩

/-- a complex fraction made by the call -/
def GtO (w : World) (lo hi : Nat) (v : Value) (x y : Rat) : Prop := ∃ vx vy m, v = gvV vx vy ∧ lo ≤ m ∧ m ≤ hi ∧ RtO 116 w lo m vx x ∧ RtO 116 w m hi vy y
/-- a complex fraction is read -/
def GtR (w : World) (v : Value) (x y : Rat) : Prop := ∃ vx vy, v = gvV vx vy ∧ RtR w vx x ∧ RtR w vy y
theorem GtO.rd {w : World} {lo hi : Nat} {v : Value} {x y : Rat} (h : GtO w lo hi v x y) : GtR w v x y := by
  obtain ⟨vx, vy, m, rfl, _, _, h1, h2⟩ := h
  exact ⟨vx, vy, rfl, h1.rd, h2.rd⟩
theorem GtR.below {w w1 : World} {v : Value} {x y : Rat} (h : GtR w v x y) (hb : Below w.heap.size w w1) : GtR w1 v x y := by
  obtain ⟨vx, vy, rfl, h1, h2⟩ := h
  exact ⟨vx, vy, rfl, h1.below hb, h2.below hb⟩
theorem GtO.below {w w1 : World} {lo hi : Nat} {v : Value} {x y : Rat} (h : GtO w lo hi v x y) (hb : Below w.heap.size w w1) : GtO w1 lo hi v x y := by
  obtain ⟨vx, vy, m, rfl, h1, h2, h3, h4⟩ := h
  exact ⟨vx, vy, m, rfl, h1, h2, h3.below hb, h4.below hb⟩
theorem GtO.mono {w : World} {lo hi lo' hi' : Nat} {v : Value} {x y : Rat} (h : GtO w lo hi v x y) (h1 : lo' ≤ lo) (h2 : hi ≤ hi') : GtO w lo' hi' v x y := by
  obtain ⟨vx, vy, m, rfl, a, b, h3, h4⟩ := h
  exact ⟨vx, vy, m, rfl, by omega, by omega, h3.mono h1 (Nat.le_refl _), h4.mono (Nat.le_refl _) h2⟩

theorem gvV_flat (g g' : Bool) (A A' B B' : Option Addr) (n n' c c' m m' d d' : Nat) : gvV (.agg #[.bool g, .slice A n c, .slice B m d]) (.agg #[.bool g', .slice A' n' c', .slice B' m' d']) = .agg #[.bool g, .slice A n c, .slice B m d, .bool g', .slice A' n' c', .slice B' m' d'] := rfl
theorem way_product_flat {p : Nat} {e : Int} {a b c d : Rat} {A1 A1' A2 A2' A3 A3' A4 A4' : Option Addr} {c1 c1' c2 c2' c3 c3' c4 c4' : Nat} (w : World) (hp : Way w p e)
    (h1 : Rd w A1 (wl (rnum a)) c1 (wds (rnum a)) ∧ Rd w A1' (wl a.den) c1' (wds a.den)) (h2 : Rd w A2 (wl (rnum b)) c2 (wds (rnum b)) ∧ Rd w A2' (wl b.den) c2' (wds b.den)) (h3 : Rd w A3 (wl (rnum c)) c3 (wds (rnum c)) ∧ Rd w A3' (wl c.den) c3' (wds c.den)) (h4 : Rd w A4 (wl (rnum d)) c4 (wds (rnum d)) ∧ Rd w A4' (wl d.den) c4' (wds d.den))
    (fa : fits a) (fb : fits b) (fc : fits c) (fd : fits d) :
    Calls Tryz.prog 244 #[.pointer (some ⟨p, 0, none⟩), .agg #[.bool (rneg a), .slice A1 (wl (rnum a)) c1, .slice A1' (wl a.den) c1', .bool (rneg b), .slice A2 (wl (rnum b)) c2, .slice A2' (wl b.den) c2'], .agg #[.bool (rneg c), .slice A3 (wl (rnum c)) c3, .slice A3' (wl c.den) c3', .bool (rneg d), .slice A4 (wl (rnum d)) c4, .slice A4' (wl d.den) c4']] w fun e1 w' => ∃ v u m, e1 = .returned (.tuple #[v, u]) ∧ Way w' p (prodE e a b c d) ∧ w.heap.size ≤ m ∧ m ≤ w'.heap.size ∧ Reg w' w.heap.size m v (prodE e a b c d) (a * c - b * d) ∧ Reg w' m w'.heap.size u (prodE e a b c d) (a * d + b * c) ∧ BelX p w w' := by
  have g1 : RtR w _ a := ⟨A1, c1, A1', c1', rfl, h1.1, h1.2⟩
  have g2 : RtR w _ b := ⟨A2, c2, A2', c2', rfl, h2.1, h2.2⟩
  have g3 : RtR w _ c := ⟨A3, c3, A3', c3', rfl, h3.1, h3.2⟩
  have g4 : RtR w _ d := ⟨A4, c4, A4', c4', rfl, h4.1, h4.2⟩
  have h := way_product w hp ⟨⟨g1.raw, fun _ => ⟨fa, g1⟩⟩, ⟨g2.raw, fun _ => ⟨fb, g2⟩⟩, ⟨g3.raw, fun _ => ⟨fc, g3⟩⟩, ⟨g4.raw, fun _ => ⟨fd, g4⟩⟩⟩
  rw [gvV_flat, gvV_flat] at h
  exact h

set_option maxRecDepth 100000 in
set_option maxHeartbeats 2000000 in
theorem gauss_Mul {a b c d : Rat} {v u : Value} (w : World) (hv : GtR w v a b) (hu : GtR w u c d) (fa : fits a) (fb : fits b) (fc : fits c) (fd : fits d) :
    Calls Tryz.prog 170 #[v, u] w fun e1 w' => ∃ r, e1 = .returned (.tuple #[r, .int .i64 (prodE 0 a b c d)]) ∧ (prodE 0 a b c d = 0 → GtO w' w.heap.size w'.heap.size r (a * c - b * d) (a * d + b * c)) ∧ (prodE 0 a b c d ≠ 0 → r = g0) ∧ Below w.heap.size w w' := by
  obtain ⟨va, vb, rfl, ha, hb⟩ := hv
  obtain ⟨vc, vd, rfl, hc, hd⟩ := hu
  obtain ⟨A1, c1, A1', c1', rfl, h1, h1'⟩ := ha
  obtain ⟨A2, c2, A2', c2', rfl, h2, h2'⟩ := hb
  obtain ⟨A3, c3, A3', c3', rfl, h3, h3'⟩ := hc
  obtain ⟨A4, c4, A4', c4', rfl, h4, h4'⟩ := hd
  show Calls Tryz.prog 170 #[.agg #[.bool (rneg a), .slice A1 (wl (rnum a)) c1, .slice A1' (wl a.den) c1', .bool (rneg b), .slice A2 (wl (rnum b)) c2, .slice A2' (wl b.den) c2'], .agg #[.bool (rneg c), .slice A3 (wl (rnum c)) c3, .slice A3' (wl c.den) c3', .bool (rneg d), .slice A4 (wl (rnum d)) c4, .slice A4' (wl d.den) c4']] w _
  obtain ⟨W0, hW0⟩ : ∃ x, ((((w.alloc (.cells #[.bool (rneg a), .slice A1 (wl (rnum a)) c1, .slice A1' (wl a.den) c1', .bool (rneg b), .slice A2 (wl (rnum b)) c2, .slice A2' (wl b.den) c2'] 83)).alloc (.cells #[.bool (rneg c), .slice A3 (wl (rnum c)) c3, .slice A3' (wl c.den) c3', .bool (rneg d), .slice A4 (wl (rnum d)) c4, .slice A4' (wl d.den) c4'] 83)).alloc (.cells #[.bool false, .slice none 0 0, .slice none 0 0, .bool false, .slice none 0 0, .slice none 0 0] 83)).alloc
      (.cells #[.bool (rneg a), .slice A1 (wl (rnum a)) c1, .slice A1' (wl a.den) c1', .bool (rneg b), .slice A2 (wl (rnum b)) c2, .slice A2' (wl b.den) c2', .bool (rneg c), .slice A3 (wl (rnum c)) c3, .slice A3' (wl c.den) c3', .bool (rneg d), .slice A4 (wl (rnum d)) c4, .slice A4' (wl d.den) c4'] 83)) = x := ⟨_, rfl⟩
  have hb0 : Below w.heap.size w W0 := by rw [← hW0]; exact ((((Below.refl _ _).alloc (Nat.le_refl _) _).alloc (by simp) _).alloc (by simp; omega) _).alloc (by simp; omega) _
  have hs0 : W0.heap.size = w.heap.size + 4 := by rw [← hW0]; simp
  have k0 : W0.heap[w.heap.size]? = some (.cells #[.bool (rneg a), .slice A1 (wl (rnum a)) c1, .slice A1' (wl a.den) c1', .bool (rneg b), .slice A2 (wl (rnum b)) c2, .slice A2' (wl b.den) c2'] 83) := by
    rw [← hW0]; exact alloc_keep (alloc_keep (alloc_keep (heap_alloc_new w _) _) _) _
  have k1 : W0.heap[w.heap.size + 1]? = some (.cells #[.bool (rneg c), .slice A3 (wl (rnum c)) c3, .slice A3' (wl c.den) c3', .bool (rneg d), .slice A4 (wl (rnum d)) c4, .slice A4' (wl d.den) c4'] 83) := by
    rw [← hW0]; exact alloc_keep (alloc_keep (by simpa using heap_alloc_new (w.alloc _) _) _) _
  have k2 : W0.heap[w.heap.size + 1 + 1]? = some (.cells #[.bool false, .slice none 0 0, .slice none 0 0, .bool false, .slice none 0 0, .slice none 0 0] 83) := by
    rw [← hW0]; exact alloc_keep (by simpa using heap_alloc_new ((w.alloc _).alloc _) _) _
  have k3 : W0.heap[w.heap.size + 1 + 1 + 1]? = some (.cells #[.bool (rneg a), .slice A1 (wl (rnum a)) c1, .slice A1' (wl a.den) c1', .bool (rneg b), .slice A2 (wl (rnum b)) c2, .slice A2' (wl b.den) c2', .bool (rneg c), .slice A3 (wl (rnum c)) c3, .slice A3' (wl c.den) c3', .bool (rneg d), .slice A4 (wl (rnum d)) c4, .slice A4' (wl d.den) c4'] 83) := by
    rw [← hW0]; simpa using heap_alloc_new (((w.alloc _).alloc _).alloc _) _
  have HR := Lib.hid (And.intro (And.intro (h1.below hb0) (h1'.below hb0)) (And.intro (And.intro (h2.below hb0) (h2'.below hb0)) (And.intro (And.intro (h3.below hb0) (h3'.below hb0)) (And.intro (h4.below hb0) (h4'.below hb0)))))
  have HK := Lib.hid (And.intro hb0 (And.intro hs0 (And.intro k0 (And.intro k1 (And.intro k2 k3)))))
  have HFF := Lib.hid (And.intro fa (And.intro fb (And.intro fc fd)))
  have HE : Hid (chk2 (chk2 (chk2 (chk2 0 (chkR (rneg a) (wds (rnum a)) (wds a.den))) (chkR (rneg b) (wds (rnum b)) (wds b.den))) (chkR (rneg c) (wds (rnum c)) (wds c.den))) (chkR (rneg d) (wds (rnum d)) (wds d.den)) = 0) := by
    show chk2 (chk2 (chk2 (chk2 0 _) _) _) _ = 0
    rw [chkR_rat fa, chkR_rat fb, chkR_rat fc, chkR_rat fd]; rfl
  clear h1 h1' h2 h2' h3 h3' h4 h4' hb0 hs0 k0 k1 k2 k3 fa fb fc fd
  go_enter Tryz.func170, Tryz.ntmps170
  go_wp2_with fail
  have HW0 := Lib.hid hW0
  clear hW0
  refine (gauss_asked2 _ HK.out.2.2.2.2.2 HR.out.1.1 HR.out.1.2 HR.out.2.1.1 HR.out.2.1.2 HR.out.2.2.1.1 HR.out.2.2.1.2 HR.out.2.2.2.1 HR.out.2.2.2.2).mono ?_
  rintro e1 w1 ⟨rfl, hW1, hB1⟩
  rw [HE.out] at hW1
  obtain ⟨⟨z0, z1, z2⟩, z3, z4, z5⟩ := cell6 ((hB1.block _ (heap_lt HK.out.2.2.1)).trans HK.out.2.2.1)
  obtain ⟨⟨y0, y1, y2⟩, y3, y4, y5⟩ := cell6 ((hB1.block _ (heap_lt HK.out.2.2.2.1)).trans HK.out.2.2.2.1)
  have HA1 := Lib.hid (And.intro hW1 hB1)
  clear hW1 hB1
  go_wp2_with fail
  refine (way_product_flat _ HA1.out.1 ⟨HR.out.1.1.below HA1.out.2, HR.out.1.2.below HA1.out.2⟩ ⟨HR.out.2.1.1.below HA1.out.2, HR.out.2.1.2.below HA1.out.2⟩ ⟨HR.out.2.2.1.1.below HA1.out.2, HR.out.2.2.1.2.below HA1.out.2⟩ ⟨HR.out.2.2.2.1.below HA1.out.2, HR.out.2.2.2.2.below HA1.out.2⟩ HFF.out.1 HFF.out.2.1 HFF.out.2.2.1 HFF.out.2.2.2).mono ?_
  rintro e1 w2 ⟨v, u, m, rfl, hW2, hm1, hm2, hRv, hRu, hX2⟩
  obtain ⟨gx, Ax, nx, cx, Ax', nx', cx', rfl⟩ := hRv.1.agg
  obtain ⟨gy, Ay, ny, cy, Ay', ny', cy', rfl⟩ := hRu.1.agg
  obtain ⟨w2', hw2'⟩ : ∃ x, (w2.alloc (.cells #[.bool gx, .slice Ax nx cx, .slice Ax' nx' cx'] 24)).alloc (.cells #[.bool gy, .slice Ay ny cy, .slice Ay' ny' cy'] 24) = x := ⟨_, rfl⟩
  have hal : Below w2.heap.size w2 w2' := by rw [← hw2']; exact ((Below.refl _ _).alloc (Nat.le_refl _) _).alloc (by simp) _
  have hbx : w2'.heap[w2.heap.size]? = some (rtO gx Ax nx cx Ax' nx' cx') := by rw [← hw2']; exact alloc_keep (heap_alloc_new w2 _) _
  have hby : w2'.heap[w2.heap.size + 1]? = some (rtO gy Ay ny cy Ay' ny' cy') := by rw [← hw2']; simpa [rtO] using heap_alloc_new (w2.alloc _) _
  have hk2 : w1.heap[w.heap.size + 1 + 1]? = _ := (HA1.out.2.block _ (heap_lt HK.out.2.2.2.2.1)).trans HK.out.2.2.2.2.1
  have hre : w2'.heap[w.heap.size + 1 + 1]? = some (.cells #[.bool false, .slice none 0 0, .slice none 0 0, .bool false, .slice none 0 0, .slice none 0 0] 83) := by
    rw [hal.block _ (heap_lt (hX2.keep hk2 (by have := HK.out.2.1; omega)))]; exact hX2.keep hk2 (by have := HK.out.2.1; omega)
  have hs1 := HA1.out.2.size
  have HF := Lib.hid (And.intro (hW2.below hal) (And.intro (hRv.below hal) (And.intro (hRu.below hal) (And.intro (HK.out.1.trans ((HA1.out.2.mono HK.out.1.size).trans ((hX2.below (by have := HK.out.2.1; omega) (by have := HK.out.2.1; omega)).trans (hal.mono (by have := HK.out.2.1; have := hX2.size; omega))))) (And.intro hre (And.intro hm1 (And.intro hm2 hal.size)))))))
  obtain ⟨x0, x1, x2, _, _, _⟩ := cell3 hbx
  obtain ⟨y0', y1', y2', _, _, _⟩ := cell3 hby
  clear hW2 hRv hRu hX2 hal hbx hby hk2 hre z0 z1 z2 z3 z4 z5 y0 y1 y2 y3 y4 y5 hm1 hm2
  go_wp2_with fail
  have HW2 := Lib.hid hw2'
  clear hw2' x0 x1 x2 y0' y1' y2'
  by_cases hk : prodE 0 a b c d = 0
  · have HW := HF.out.1
    rw [hk] at HW
    have HKZ := Lib.hid hk
    clear hk
    refine (way_told_ok _ HW).mono ?_
    rintro e1 w3 ⟨rfl, hB3⟩
    have hr3 := (hB3.block _ (heap_lt HF.out.2.2.2.2.1)).trans HF.out.2.2.2.2.1
    obtain ⟨⟨r0, r1, r2⟩, r3, r4, r5⟩ := cell6 hr3
    obtain ⟨s0, s1, s2, s3, s4, s5⟩ := free6 hr3
    have HG : Hid (RtO 116 w3 w1.heap.size m (.agg #[.bool gx, .slice Ax nx cx, .slice Ax' nx' cx']) (a * c - b * d) ∧ RtO 116 w3 m w2.heap.size (.agg #[.bool gy, .slice Ay ny cy, .slice Ay' ny' cy']) (a * d + b * c) ∧ Below w.heap.size w w3 ∧ w2'.heap.size ≤ w3.heap.size) :=
      ⟨((HF.out.2.1.2 HKZ.out).2).below hB3, ((HF.out.2.2.1.2 HKZ.out).2).below hB3, HF.out.2.2.2.1.trans (hB3.mono HF.out.2.2.2.1.size), hB3.size⟩
    have hlt : w.heap.size + 1 + 1 < w1.heap.size := by have := HK.out.2.1; omega
    have HL := Lib.hid hlt
    clear hr3 hB3 HW
    go_wp2_with fail
    exact bodyPost_ret (v := .tuple #[.agg #[.bool gx, .slice Ax nx cx, .slice Ax' nx' cx', .bool gy, .slice Ay ny cy, .slice Ay' ny' cy'], .int .i64 0]) (by simp [results, Tryz.results170, go_sem, r0, r1, r2, r3, r4, r5]) rfl
      ⟨.agg #[.bool gx, .slice Ax nx cx, .slice Ax' nx' cx', .bool gy, .slice Ay ny cy, .slice Ay' ny' cy'], by rw [HKZ.out], fun _ => ⟨.agg #[.bool gx, .slice Ax nx cx, .slice Ax' nx' cx'], .agg #[.bool gy, .slice Ay ny cy, .slice Ay' ny' cy'], m, rfl, by have := HF.out.2.2.2.2.2.1; have := HL.out; omega, by have := HF.out.2.2.2.2.2.2; have := HG.out.2.2.2; simp; omega, (HG.out.1.set6 HL.out).mono (by have := HL.out; omega) (Nat.le_refl _), (HG.out.2.1.set6 (by have := HL.out; have := HF.out.2.2.2.2.2.1; omega)).mono (Nat.le_refl _) (by have := HF.out.2.2.2.2.2.2; have := HG.out.2.2.2; simp; omega)⟩, fun h => absurd HKZ.out h, below_set6 HG.out.2.2.1 (by omega) _ _ _ _ _ _⟩
  · have HW := HF.out.1
    have HKZ := Lib.hid hk
    clear hk
    refine (way_told_no _ HW HKZ.out).mono ?_
    rintro e1 w3 ⟨rfl, hB3⟩
    have hr3 := (hB3.block _ (heap_lt HF.out.2.2.2.2.1)).trans HF.out.2.2.2.2.1
    obtain ⟨⟨r0, r1, r2⟩, r3, r4, r5⟩ := cell6 hr3
    obtain ⟨s0, s1, s2, s3, s4, s5⟩ := free6 hr3
    have HG := Lib.hid (HF.out.2.2.2.1.trans (hB3.mono HF.out.2.2.2.1.size))
    clear hr3 hB3 HW
    unfold g0
    go_wp2_with fail
    exact bodyPost_ret (v := .tuple #[g0, .int .i64 (prodE 0 a b c d)]) (by simp [g0, results, Tryz.results170, go_sem, r0, r1, r2, r3, r4, r5]) rfl ⟨_, rfl, fun h => absurd h HKZ.out, fun _ => rfl, below_set6 HG.out (by omega) _ _ _ _ _ _⟩
end Go.Proofs.YtcbkijeonilcjaaGreat
