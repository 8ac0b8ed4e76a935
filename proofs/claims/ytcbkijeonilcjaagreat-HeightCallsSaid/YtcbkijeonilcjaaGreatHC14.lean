/- Package gauss: steps of a way. -/
import Derived.Test.YtcbkijeonilcjaaGreatHC13
namespace Go.Proofs.YtcbkijeonilcjaaGreat
open Go.RowKit

theorem RawR.set3 {w : World} {v x y z : Value} {b : Nat} (h : RawR w v) (hb : ∀ o n, w.cell? ⟨b, o, none⟩ ≠ some (.int .u32 n)) : RawR (set3 w b x y z) v := by
  obtain ⟨g, A, n, c, l, A', n', c', l', rfl, h1, h2⟩ := h
  have key : ∀ {A : Option Addr} {n c : Nat} {l : List Nat}, Rd w A n c l → Rd (Go.Proofs.YtcbkijeonilcjaaGreat.set3 w b x y z) A n c l := by
    intro A n c l h
    refine ⟨h.len, h.lim, h.cap, h.big, fun hn => ?_⟩
    obtain ⟨b', o, e, hc⟩ := h.cell hn
    refine ⟨b', o, e, fun j hj => ?_⟩
    have h1 := hc j hj
    have hbp : b' ≠ b := fun e => by rw [e] at h1; exact hb _ _ h1
    exact cell_set3 h1 hbp
  exact ⟨_, _, _, _, _, _, _, _, _, rfl, key h1, key h2⟩
theorem no_word {w : World} {b : Nat} {g : Bool} {A A' : Option Addr} {n n' c c' : Nat} {T : TypeId} (h : w.heap[b]? = some (.cells #[.bool g, .slice A n c, .slice A' n' c'] T)) (o : Nat) (m : Int) : w.cell? ⟨b, o, none⟩ ≠ some (.int .u32 m) := by
  rcases (by omega : o = 0 ∨ o = 1 ∨ o = 2 ∨ 3 ≤ o) with rfl | rfl | rfl | h3
  · simp [World.cell?, h]
  · simp [World.cell?, h]
  · simp [World.cell?, h]
  · have : (#[Value.bool g, .slice A n c, .slice A' n' c'] : Array Value)[o]? = none := by simp; omega
    simp [World.cell?, h, this]
theorem Way.set3 {w : World} {p b : Nat} {e : Int} {x y z : Value} (h : Way w p e) (hb : b ≠ p) : Way (set3 w b x y z) p e := by
  unfold Way Go.Proofs.YtcbkijeonilcjaaGreat.set3 at *
  rw [Below.heap_setCell _ _ _ _ (Ne.symm hb), Below.heap_setCell _ _ _ _ (Ne.symm hb), Below.heap_setCell _ _ _ _ (Ne.symm hb)]; exact h
theorem BelX.set3 {p b : Nat} {w w' : World} {x y z : Value} (h : BelX p w w') (hb : w.heap.size ≤ b) : BelX p w (set3 w' b x y z) :=
  ⟨h.os, h.tape, h.output, by rw [set3_size]; exact h.size, fun k hk hp => by
    unfold Go.Proofs.YtcbkijeonilcjaaGreat.set3
    rw [Below.heap_setCell _ _ _ _ (show k ≠ b by omega), Below.heap_setCell _ _ _ _ (show k ≠ b by omega), Below.heap_setCell _ _ _ _ (show k ≠ b by omega)]; exact h.block k hk hp⟩

/-- the boxes: block R = size + 2 in W -/
theorem boxR {w W : World} {x y z x' y' z' : Value} {T : TypeId} (hb : Below (((w.alloc (.cells #[x, y, z] T)).alloc (.cells #[x', y', z'] T)).alloc (.cells #[.bool false, .slice none 0 0, .slice none 0 0] T)).heap.size (((w.alloc (.cells #[x, y, z] T)).alloc (.cells #[x', y', z'] T)).alloc (.cells #[.bool false, .slice none 0 0, .slice none 0 0] T)) W) :
    W.heap[w.heap.size + 1 + 1]? = some (.cells #[.bool false, .slice none 0 0, .slice none 0 0] T (0, 0)) := by
  rw [hb.block _ (by simp)]
  have := heap_alloc_new ((w.alloc (.cells #[x, y, z] T)).alloc (.cells #[x', y', z'] T)) (.cells #[.bool false, .slice none 0 0, .slice none 0 0] T)
  simpa using this

set_option maxHeartbeats 1000000 in
theorem way_mul_no {p : Nat} {e : Int} {va vb : Value} (w : World) (hp : Way w p e) (he : e ≠ 0) (ha : RawR w va) (hb : RawR w vb) :
    Calls Tryz.prog 299 #[.pointer (some ⟨p, 0, none⟩), va, vb] w fun e1 w' => e1 = .returned rt0 ∧ Way w' p e ∧ BelX p w w' := by
  obtain ⟨g, A, n, c, l, A', n', c', l', rfl, h, h'⟩ := ha
  obtain ⟨g2, A2, n2, c2, l2, A2', n2', c2', l2', rfl, h2, h2'⟩ := hb
  have hb0 : Below w.heap.size w (((w.alloc (.cells #[.bool g, .slice A n c, .slice A' n' c'] 24)).alloc (.cells #[.bool g2, .slice A2 n2 c2, .slice A2' n2' c2'] 24)).alloc (.cells #[.bool false, .slice none 0 0, .slice none 0 0] 24)) := (((Below.refl _ _).alloc (Nat.le_refl _) _).alloc (by simp) _).alloc (by simp; omega) _
  have KB := fun W => @boxR w W (.bool g) (.slice A n c) (.slice A' n' c') (.bool g2) (.slice A2 n2 c2) (.slice A2' n2' c2') 24
  have R1 := show RawR _ _ from ⟨g, A, n, c, l, A', n', c', l', rfl, h.below hb0, h'.below hb0⟩
  have R2 := show RawR _ _ from ⟨g2, A2, n2, c2, l2, A2', n2', c2', l2', rfl, h2.below hb0, h2'.below hb0⟩
  have hplt := hp.lt
  have HP := Lib.hid (hp.below hb0)
  have HB0 := Lib.hid hb0
  have HKB := Lib.hid KB
  have HE := Lib.hid he
  clear h h' h2 h2' hp hb0 KB he
  go_enter Tryz.func299, Tryz.ntmps299
  go_wp2_with fail
  refine (ratio_Mul_any _ R1 R2).mono ?_
  rintro e1 w1 ⟨v, k, rfl, hR, hB1⟩
  obtain ⟨g3, A3, n3, c3, l3, A3', n3', c3', l3', rfl, hr1, hr2⟩ := hR
  have hX1 : BelX p w w1 := (toX HB0.out p).trans (toX hB1 p)
  have hR := HKB.out _ hB1
  clear R1 R2
  go_wp2_with fail
  refine (way_made p e k g3 A3 A3' n3 n3' c3 c3' _ (HP.out.below hB1)).mono ?_
  rintro e1 w2 ⟨_, hm, hX2⟩
  obtain ⟨rfl, hW2⟩ := hm HE.out
  have hR2 : w2.heap[w.heap.size + 1 + 1]? = some (.cells #[.bool false, .slice none 0 0, .slice none 0 0] 24 (0, 0)) := by
    rw [hX2.block _ (Array.getElem?_eq_some_iff.1 hR).1 (by omega)]; exact hR
  obtain ⟨r0, r1, r2, s0, s1, s2⟩ := cell3 hR2
  have HF := Lib.hid (And.intro hW2 (And.intro (hX1.trans hX2) hplt))
  clear hW2 hX2 hX1 hR hR2 hm hB1 hr1 hr2 HKB
  unfold rt0
  go_wp2_with fail
  exact bodyPost_ret (v := rt0) (by simp [rt0, results, Tryz.results299, go_sem, r0, r1, r2]) rfl ⟨rfl, HF.out.1.set3 (by have := HF.out.2.2; omega), HF.out.2.1.set3 (by omega)⟩

set_option maxHeartbeats 1000000 in
theorem way_mul_ok {p : Nat} {a b : Rat} {va vb : Value} (w : World) (hp : Way w p 0) (ha : RtR w va a) (hb : RtR w vb b) (fa : fits a) (fb : fits b) :
    Calls Tryz.prog 299 #[.pointer (some ⟨p, 0, none⟩), va, vb] w fun e1 w' => ∃ v k, e1 = .returned v ∧ Way w' p k ∧ RtA 116 w' w.heap.size v k (a * b) ∧ BelX p w w' := by
  obtain ⟨A, c, A', c', rfl, h, h'⟩ := ha
  obtain ⟨B, d, B', d', rfl, h2, h2'⟩ := hb
  have hb0 : Below w.heap.size w (((w.alloc (.cells #[.bool (rneg a), .slice A (wl (rnum a)) c, .slice A' (wl a.den) c'] 24)).alloc (.cells #[.bool (rneg b), .slice B (wl (rnum b)) d, .slice B' (wl b.den) d'] 24)).alloc (.cells #[.bool false, .slice none 0 0, .slice none 0 0] 24)) := (((Below.refl _ _).alloc (Nat.le_refl _) _).alloc (by simp) _).alloc (by simp; omega) _
  have KB := fun W => @boxR w W (.bool (rneg a)) (.slice A (wl (rnum a)) c) (.slice A' (wl a.den) c') (.bool (rneg b)) (.slice B (wl (rnum b)) d) (.slice B' (wl b.den) d') 24
  have H1 := h.below hb0
  have H2 := h'.below hb0
  have K1 := h2.below hb0
  have K2 := h2'.below hb0
  have hplt := hp.lt
  have HP := Lib.hid (hp.below hb0)
  have HB0 := Lib.hid hb0
  have HKB := Lib.hid KB
  have HFF := Lib.hid (And.intro fa fb)
  clear h h' h2 h2' hp hb0 KB fa fb
  go_enter Tryz.func299, Tryz.ntmps299
  go_wp2_with fail
  refine (ratio_Mul_ok a b A A' B B' c c' d d' _ H1 H2 K1 K2 HFF.out.1 HFF.out.2).mono ?_
  rintro e1 w1 ⟨v, k, rfl, hA, hB1⟩
  obtain ⟨vb, vA, vn, vc, vA', vn', vc', rfl⟩ := hA.agg
  have hX1 : BelX p w w1 := (toX HB0.out p).trans (toX hB1 p)
  have hR := HKB.out _ hB1
  have hW1 := HP.out.below hB1
  have hs : w.heap.size + 1 + 1 < (((w.alloc (.cells #[.bool (rneg a), .slice A (wl (rnum a)) c, .slice A' (wl a.den) c'] 24)).alloc (.cells #[.bool (rneg b), .slice B (wl (rnum b)) d, .slice B' (wl b.den) d'] 24)).alloc (.cells #[.bool false, .slice none 0 0, .slice none 0 0] 24)).heap.size := by simp
  have hA' : RtA 116 w1 (w.heap.size + 1 + 1 + 1) (.agg #[.bool vb, .slice vA vn vc, .slice vA' vn' vc']) k (a * b) := hA.mono hs
  clear H1 H2 K1 K2 hA hs
  go_wp2_with fail
  refine (way_made p 0 k vb vA vA' vn vn' vc vc' _ hW1).mono ?_
  rintro e1 w2 ⟨hm, _, hX2⟩
  obtain ⟨rfl, hW2⟩ := hm rfl
  have hR2 : w2.heap[w.heap.size + 1 + 1]? = some (.cells #[.bool false, .slice none 0 0, .slice none 0 0] 24 (0, 0)) := by
    rw [hX2.block _ (Array.getElem?_eq_some_iff.1 hR).1 (by omega)]; exact hR
  obtain ⟨r0, r1, r2, s0, s1, s2⟩ := cell3 hR2
  have hA2 : RtA 116 w2 (w.heap.size + 1 + 1 + 1) (.agg #[.bool vb, .slice vA vn vc, .slice vA' vn' vc']) k (a * b) := by
    rcases hA' with ⟨h1, h2, h3⟩ | h
    · exact .inl ⟨h1, h2, (h3.x hW1 hX2).mono (Nat.le_refl _) hX2.size⟩
    · exact .inr h
  have HF := Lib.hid (And.intro hW2 (And.intro (hX1.trans hX2) (And.intro hplt hA2)))
  clear hW2 hX2 hX1 hR hR2 hm hB1 HKB hA' hA2 hW1
  go_wp2_with fail
  exact bodyPost_ret (v := .agg #[.bool vb, .slice vA vn vc, .slice vA' vn' vc']) (by simp [results, Tryz.results299, go_sem, r0, r1, r2]) rfl ⟨_, _, rfl, HF.out.1.set3 (by have := HF.out.2.2.1; omega), (HF.out.2.2.2.set3 (by omega)).mono (by omega), HF.out.2.1.set3 (by omega)⟩
set_option maxHeartbeats 1000000 in
theorem way_add_no {p : Nat} {e : Int} {va vb : Value} (w : World) (hp : Way w p e) (he : e ≠ 0) (ha : RawR w va) (hb : RawR w vb) :
    Calls Tryz.prog 300 #[.pointer (some ⟨p, 0, none⟩), va, vb] w fun e1 w' => e1 = .returned rt0 ∧ Way w' p e ∧ BelX p w w' := by
  obtain ⟨g, A, n, c, l, A', n', c', l', rfl, h, h'⟩ := ha
  obtain ⟨g2, A2, n2, c2, l2, A2', n2', c2', l2', rfl, h2, h2'⟩ := hb
  have hb0 : Below w.heap.size w (((w.alloc (.cells #[.bool g, .slice A n c, .slice A' n' c'] 24)).alloc (.cells #[.bool g2, .slice A2 n2 c2, .slice A2' n2' c2'] 24)).alloc (.cells #[.bool false, .slice none 0 0, .slice none 0 0] 24)) := (((Below.refl _ _).alloc (Nat.le_refl _) _).alloc (by simp) _).alloc (by simp; omega) _
  have KB := fun W => @boxR w W (.bool g) (.slice A n c) (.slice A' n' c') (.bool g2) (.slice A2 n2 c2) (.slice A2' n2' c2') 24
  have R1 := show RawR _ _ from ⟨g, A, n, c, l, A', n', c', l', rfl, h.below hb0, h'.below hb0⟩
  have R2 := show RawR _ _ from ⟨g2, A2, n2, c2, l2, A2', n2', c2', l2', rfl, h2.below hb0, h2'.below hb0⟩
  have hplt := hp.lt
  have HP := Lib.hid (hp.below hb0)
  have HB0 := Lib.hid hb0
  have HKB := Lib.hid KB
  have HE := Lib.hid he
  clear h h' h2 h2' hp hb0 KB he
  go_enter Tryz.func300, Tryz.ntmps300
  go_wp2_with fail
  refine (ratio_Add_any _ R1 R2).mono ?_
  rintro e1 w1 ⟨v, k, rfl, hR, hB1⟩
  obtain ⟨g3, A3, n3, c3, l3, A3', n3', c3', l3', rfl, hr1, hr2⟩ := hR
  have hX1 : BelX p w w1 := (toX HB0.out p).trans (toX hB1 p)
  have hR := HKB.out _ hB1
  clear R1 R2
  go_wp2_with fail
  refine (way_made p e k g3 A3 A3' n3 n3' c3 c3' _ (HP.out.below hB1)).mono ?_
  rintro e1 w2 ⟨_, hm, hX2⟩
  obtain ⟨rfl, hW2⟩ := hm HE.out
  have hR2 : w2.heap[w.heap.size + 1 + 1]? = some (.cells #[.bool false, .slice none 0 0, .slice none 0 0] 24 (0, 0)) := by
    rw [hX2.block _ (Array.getElem?_eq_some_iff.1 hR).1 (by omega)]; exact hR
  obtain ⟨r0, r1, r2, s0, s1, s2⟩ := cell3 hR2
  have HF := Lib.hid (And.intro hW2 (And.intro (hX1.trans hX2) hplt))
  clear hW2 hX2 hX1 hR hR2 hm hB1 hr1 hr2 HKB
  unfold rt0
  go_wp2_with fail
  exact bodyPost_ret (v := rt0) (by simp [rt0, results, Tryz.results300, go_sem, r0, r1, r2]) rfl ⟨rfl, HF.out.1.set3 (by have := HF.out.2.2; omega), HF.out.2.1.set3 (by omega)⟩

set_option maxHeartbeats 1000000 in
theorem way_add_ok {p : Nat} {a b : Rat} {va vb : Value} (w : World) (hp : Way w p 0) (ha : RtR w va a) (hb : RtR w vb b) (fa : fits a) (fb : fits b) :
    Calls Tryz.prog 300 #[.pointer (some ⟨p, 0, none⟩), va, vb] w fun e1 w' => ∃ v k, e1 = .returned v ∧ Way w' p k ∧ RtA 116 w' w.heap.size v k (a + b) ∧ BelX p w w' := by
  obtain ⟨A, c, A', c', rfl, h, h'⟩ := ha
  obtain ⟨B, d, B', d', rfl, h2, h2'⟩ := hb
  have hb0 : Below w.heap.size w (((w.alloc (.cells #[.bool (rneg a), .slice A (wl (rnum a)) c, .slice A' (wl a.den) c'] 24)).alloc (.cells #[.bool (rneg b), .slice B (wl (rnum b)) d, .slice B' (wl b.den) d'] 24)).alloc (.cells #[.bool false, .slice none 0 0, .slice none 0 0] 24)) := (((Below.refl _ _).alloc (Nat.le_refl _) _).alloc (by simp) _).alloc (by simp; omega) _
  have KB := fun W => @boxR w W (.bool (rneg a)) (.slice A (wl (rnum a)) c) (.slice A' (wl a.den) c') (.bool (rneg b)) (.slice B (wl (rnum b)) d) (.slice B' (wl b.den) d') 24
  have H1 := h.below hb0
  have H2 := h'.below hb0
  have K1 := h2.below hb0
  have K2 := h2'.below hb0
  have hplt := hp.lt
  have HP := Lib.hid (hp.below hb0)
  have HB0 := Lib.hid hb0
  have HKB := Lib.hid KB
  have HFF := Lib.hid (And.intro fa fb)
  clear h h' h2 h2' hp hb0 KB fa fb
  go_enter Tryz.func300, Tryz.ntmps300
  go_wp2_with fail
  refine (ratio_Add_ok a b A A' B B' c c' d d' _ H1 H2 K1 K2 HFF.out.1 HFF.out.2).mono ?_
  rintro e1 w1 ⟨v, k, rfl, hA, hB1⟩
  obtain ⟨vb, vA, vn, vc, vA', vn', vc', rfl⟩ := hA.agg
  have hX1 : BelX p w w1 := (toX HB0.out p).trans (toX hB1 p)
  have hR := HKB.out _ hB1
  have hW1 := HP.out.below hB1
  have hs : w.heap.size + 1 + 1 < (((w.alloc (.cells #[.bool (rneg a), .slice A (wl (rnum a)) c, .slice A' (wl a.den) c'] 24)).alloc (.cells #[.bool (rneg b), .slice B (wl (rnum b)) d, .slice B' (wl b.den) d'] 24)).alloc (.cells #[.bool false, .slice none 0 0, .slice none 0 0] 24)).heap.size := by simp
  have hA' : RtA 116 w1 (w.heap.size + 1 + 1 + 1) (.agg #[.bool vb, .slice vA vn vc, .slice vA' vn' vc']) k (a + b) := hA.mono hs
  clear H1 H2 K1 K2 hA hs
  go_wp2_with fail
  refine (way_made p 0 k vb vA vA' vn vn' vc vc' _ hW1).mono ?_
  rintro e1 w2 ⟨hm, _, hX2⟩
  obtain ⟨rfl, hW2⟩ := hm rfl
  have hR2 : w2.heap[w.heap.size + 1 + 1]? = some (.cells #[.bool false, .slice none 0 0, .slice none 0 0] 24 (0, 0)) := by
    rw [hX2.block _ (Array.getElem?_eq_some_iff.1 hR).1 (by omega)]; exact hR
  obtain ⟨r0, r1, r2, s0, s1, s2⟩ := cell3 hR2
  have hA2 : RtA 116 w2 (w.heap.size + 1 + 1 + 1) (.agg #[.bool vb, .slice vA vn vc, .slice vA' vn' vc']) k (a + b) := by
    rcases hA' with ⟨h1, h2, h3⟩ | h
    · exact .inl ⟨h1, h2, (h3.x hW1 hX2).mono (Nat.le_refl _) hX2.size⟩
    · exact .inr h
  have HF := Lib.hid (And.intro hW2 (And.intro (hX1.trans hX2) (And.intro hplt hA2)))
  clear hW2 hX2 hX1 hR hR2 hm hB1 HKB hA' hA2 hW1
  go_wp2_with fail
  exact bodyPost_ret (v := .agg #[.bool vb, .slice vA vn vc, .slice vA' vn' vc']) (by simp [results, Tryz.results300, go_sem, r0, r1, r2]) rfl ⟨_, _, rfl, HF.out.1.set3 (by have := HF.out.2.2.1; omega), (HF.out.2.2.2.set3 (by omega)).mono (by omega), HF.out.2.1.set3 (by omega)⟩
set_option maxHeartbeats 1000000 in
theorem way_sub_no {p : Nat} {e : Int} {va vb : Value} (w : World) (hp : Way w p e) (he : e ≠ 0) (ha : RawR w va) (hb : RawR w vb) :
    Calls Tryz.prog 246 #[.pointer (some ⟨p, 0, none⟩), va, vb] w fun e1 w' => e1 = .returned rt0 ∧ Way w' p e ∧ BelX p w w' := by
  obtain ⟨g, A, n, c, l, A', n', c', l', rfl, h, h'⟩ := ha
  obtain ⟨g2, A2, n2, c2, l2, A2', n2', c2', l2', rfl, h2, h2'⟩ := hb
  have hb0 : Below w.heap.size w (((w.alloc (.cells #[.bool g, .slice A n c, .slice A' n' c'] 24)).alloc (.cells #[.bool g2, .slice A2 n2 c2, .slice A2' n2' c2'] 24)).alloc (.cells #[.bool false, .slice none 0 0, .slice none 0 0] 24)) := (((Below.refl _ _).alloc (Nat.le_refl _) _).alloc (by simp) _).alloc (by simp; omega) _
  have KB := fun W => @boxR w W (.bool g) (.slice A n c) (.slice A' n' c') (.bool g2) (.slice A2 n2 c2) (.slice A2' n2' c2') 24
  have R1 := show RawR _ _ from ⟨g, A, n, c, l, A', n', c', l', rfl, h.below hb0, h'.below hb0⟩
  have R2 := show RawR _ _ from ⟨g2, A2, n2, c2, l2, A2', n2', c2', l2', rfl, h2.below hb0, h2'.below hb0⟩
  have hplt := hp.lt
  have HP := Lib.hid (hp.below hb0)
  have HB0 := Lib.hid hb0
  have HKB := Lib.hid KB
  have HE := Lib.hid he
  clear h h' h2 h2' hp hb0 KB he
  go_enter Tryz.func246, Tryz.ntmps246
  go_wp2_with fail
  refine (ratio_Sub_any _ R1 R2).mono ?_
  rintro e1 w1 ⟨v, k, rfl, hR, hB1⟩
  obtain ⟨g3, A3, n3, c3, l3, A3', n3', c3', l3', rfl, hr1, hr2⟩ := hR
  have hX1 : BelX p w w1 := (toX HB0.out p).trans (toX hB1 p)
  have hR := HKB.out _ hB1
  clear R1 R2
  go_wp2_with fail
  refine (way_made p e k g3 A3 A3' n3 n3' c3 c3' _ (HP.out.below hB1)).mono ?_
  rintro e1 w2 ⟨_, hm, hX2⟩
  obtain ⟨rfl, hW2⟩ := hm HE.out
  have hR2 : w2.heap[w.heap.size + 1 + 1]? = some (.cells #[.bool false, .slice none 0 0, .slice none 0 0] 24 (0, 0)) := by
    rw [hX2.block _ (Array.getElem?_eq_some_iff.1 hR).1 (by omega)]; exact hR
  obtain ⟨r0, r1, r2, s0, s1, s2⟩ := cell3 hR2
  have HF := Lib.hid (And.intro hW2 (And.intro (hX1.trans hX2) hplt))
  clear hW2 hX2 hX1 hR hR2 hm hB1 hr1 hr2 HKB
  unfold rt0
  go_wp2_with fail
  exact bodyPost_ret (v := rt0) (by simp [rt0, results, Tryz.results246, go_sem, r0, r1, r2]) rfl ⟨rfl, HF.out.1.set3 (by have := HF.out.2.2; omega), HF.out.2.1.set3 (by omega)⟩

set_option maxHeartbeats 1000000 in
theorem way_sub_ok {p : Nat} {a b : Rat} {va vb : Value} (w : World) (hp : Way w p 0) (ha : RtR w va a) (hb : RtR w vb b) (fa : fits a) (fb : fits b) :
    Calls Tryz.prog 246 #[.pointer (some ⟨p, 0, none⟩), va, vb] w fun e1 w' => ∃ v k, e1 = .returned v ∧ Way w' p k ∧ RtA 116 w' w.heap.size v k (a - b) ∧ BelX p w w' := by
  obtain ⟨A, c, A', c', rfl, h, h'⟩ := ha
  obtain ⟨B, d, B', d', rfl, h2, h2'⟩ := hb
  have hb0 : Below w.heap.size w (((w.alloc (.cells #[.bool (rneg a), .slice A (wl (rnum a)) c, .slice A' (wl a.den) c'] 24)).alloc (.cells #[.bool (rneg b), .slice B (wl (rnum b)) d, .slice B' (wl b.den) d'] 24)).alloc (.cells #[.bool false, .slice none 0 0, .slice none 0 0] 24)) := (((Below.refl _ _).alloc (Nat.le_refl _) _).alloc (by simp) _).alloc (by simp; omega) _
  have KB := fun W => @boxR w W (.bool (rneg a)) (.slice A (wl (rnum a)) c) (.slice A' (wl a.den) c') (.bool (rneg b)) (.slice B (wl (rnum b)) d) (.slice B' (wl b.den) d') 24
  have H1 := h.below hb0
  have H2 := h'.below hb0
  have K1 := h2.below hb0
  have K2 := h2'.below hb0
  have hplt := hp.lt
  have HP := Lib.hid (hp.below hb0)
  have HB0 := Lib.hid hb0
  have HKB := Lib.hid KB
  have HFF := Lib.hid (And.intro fa fb)
  clear h h' h2 h2' hp hb0 KB fa fb
  go_enter Tryz.func246, Tryz.ntmps246
  go_wp2_with fail
  refine (ratio_Sub_ok a b A A' B B' c c' d d' _ H1 H2 K1 K2 HFF.out.1 HFF.out.2).mono ?_
  rintro e1 w1 ⟨v, k, rfl, hA, hB1⟩
  obtain ⟨vb, vA, vn, vc, vA', vn', vc', rfl⟩ := hA.agg
  have hX1 : BelX p w w1 := (toX HB0.out p).trans (toX hB1 p)
  have hR := HKB.out _ hB1
  have hW1 := HP.out.below hB1
  have hs : w.heap.size + 1 + 1 < (((w.alloc (.cells #[.bool (rneg a), .slice A (wl (rnum a)) c, .slice A' (wl a.den) c'] 24)).alloc (.cells #[.bool (rneg b), .slice B (wl (rnum b)) d, .slice B' (wl b.den) d'] 24)).alloc (.cells #[.bool false, .slice none 0 0, .slice none 0 0] 24)).heap.size := by simp
  have hA' : RtA 116 w1 (w.heap.size + 1 + 1 + 1) (.agg #[.bool vb, .slice vA vn vc, .slice vA' vn' vc']) k (a - b) := hA.mono hs
  clear H1 H2 K1 K2 hA hs
  go_wp2_with fail
  refine (way_made p 0 k vb vA vA' vn vn' vc vc' _ hW1).mono ?_
  rintro e1 w2 ⟨hm, _, hX2⟩
  obtain ⟨rfl, hW2⟩ := hm rfl
  have hR2 : w2.heap[w.heap.size + 1 + 1]? = some (.cells #[.bool false, .slice none 0 0, .slice none 0 0] 24 (0, 0)) := by
    rw [hX2.block _ (Array.getElem?_eq_some_iff.1 hR).1 (by omega)]; exact hR
  obtain ⟨r0, r1, r2, s0, s1, s2⟩ := cell3 hR2
  have hA2 : RtA 116 w2 (w.heap.size + 1 + 1 + 1) (.agg #[.bool vb, .slice vA vn vc, .slice vA' vn' vc']) k (a - b) := by
    rcases hA' with ⟨h1, h2, h3⟩ | h
    · exact .inl ⟨h1, h2, (h3.x hW1 hX2).mono (Nat.le_refl _) hX2.size⟩
    · exact .inr h
  have HF := Lib.hid (And.intro hW2 (And.intro (hX1.trans hX2) (And.intro hplt hA2)))
  clear hW2 hX2 hX1 hR hR2 hm hB1 HKB hA' hA2 hW1
  go_wp2_with fail
  exact bodyPost_ret (v := .agg #[.bool vb, .slice vA vn vc, .slice vA' vn' vc']) (by simp [results, Tryz.results246, go_sem, r0, r1, r2]) rfl ⟨_, _, rfl, HF.out.1.set3 (by have := HF.out.2.2.1; omega), (HF.out.2.2.2.set3 (by omega)).mono (by omega), HF.out.2.1.set3 (by omega)⟩
end Go.Proofs.YtcbkijeonilcjaaGreat
