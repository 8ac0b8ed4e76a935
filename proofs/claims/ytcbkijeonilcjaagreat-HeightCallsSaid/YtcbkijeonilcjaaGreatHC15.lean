/- Package gauss: products. -/
import Derived.Test.YtcbkijeonilcjaaGreatHC14
namespace Go.Proofs.YtcbkijeonilcjaaGreat
open Go.RowKit

/-- the error behind a step that makes q -/
def nextE (k : Int) (q : Rat) : Int := if k = 0 then (if fits q then 0 else 3) else k
theorem nextE_zero {k : Int} {q : Rat} : nextE k q = 0 ↔ k = 0 ∧ fits q := by
  unfold nextE
  by_cases h : k = 0
  · by_cases h2 : fits q
    · simp [h, h2]
    · simp [h, h2]
  · simp [h]
/-- what a step made, if its error is k -/
def Reg (w : World) (lo hi : Nat) (v : Value) (k : Int) (q : Rat) : Prop := RawR w v ∧ (k = 0 → fits q ∧ RtO 116 w lo hi v q)
theorem Reg.x {w w1 : World} {lo hi p : Nat} {v : Value} {k e : Int} {q : Rat} (h : Reg w lo hi v k q) (hp : Way w p e) (hb : BelX p w w1) : Reg w1 lo hi v k q :=
  ⟨h.1.x hp hb, fun e => ⟨(h.2 e).1, (h.2 e).2.x hp hb⟩⟩
theorem Reg.below {w w1 : World} {lo hi : Nat} {v : Value} {k : Int} {q : Rat} (h : Reg w lo hi v k q) (hb : Below w.heap.size w w1) : Reg w1 lo hi v k q :=
  ⟨h.1.below hb, fun e => ⟨(h.2 e).1, (h.2 e).2.below hb⟩⟩
theorem Reg.mono {w : World} {lo hi lo' hi' : Nat} {v : Value} {k : Int} {q : Rat} (h : Reg w lo hi v k q) (h1 : lo' ≤ lo) (h2 : hi ≤ hi') : Reg w lo' hi' v k q :=
  ⟨h.1, fun e => ⟨(h.2 e).1, (h.2 e).2.mono h1 h2⟩⟩
theorem Reg.weak {w : World} {lo hi : Nat} {v : Value} {k k' : Int} {q : Rat} (h : Reg w lo hi v k q) (hk : k' = 0 → k = 0) : Reg w lo hi v k' q := ⟨h.1, fun e => h.2 (hk e)⟩
theorem Reg.set3 {w : World} {lo hi b : Nat} {v x y z : Value} {k : Int} {q : Rat} (h : Reg w lo hi v k q) (hb : ∀ o n, w.cell? ⟨b, o, none⟩ ≠ some (.int .u32 n)) (hT : ∀ cur, w.heap[b]? ≠ some (.cells cur 116 (0, 0))) : Reg (set3 w b x y z) lo hi v k q := by
  refine ⟨h.1.set3 hb, fun e => ⟨(h.2 e).1, ?_⟩⟩
  have key : ∀ {lo hi : Nat} {v : Value} {l : List Nat}, OwnR 116 w lo hi v l → OwnR 116 (Go.Proofs.YtcbkijeonilcjaaGreat.set3 w b x y z) lo hi v l := by
    intro lo hi v l h
    rcases h with h | ⟨b', o, n, c, rfl, h1, h2, hA⟩
    · exact .inl h
    · have hne : b ≠ b' := fun e => by
        obtain ⟨cur, h3, _⟩ := hA
        rw [← e] at h3; exact hT _ h3
      exact .inr ⟨b', o, n, c, rfl, h1, h2, ((hA.setc hne).setc hne).setc hne⟩
  obtain ⟨vn, vd, m, rfl, h1, h2, h3, h4⟩ := (h.2 e).2
  exact ⟨vn, vd, m, rfl, h1, h2, key h3, key h4⟩
theorem RtO.reg {w : World} {lo hi : Nat} {v : Value} {q : Rat} (h : RtO 116 w lo hi v q) (hf : fits q) (k : Int) : Reg w lo hi v k q := ⟨h.rd.raw, fun _ => ⟨hf, h⟩⟩
/-- what is handed to a step -/
def Arg (w : World) (v : Value) (k : Int) (q : Rat) : Prop := RawR w v ∧ (k = 0 → fits q ∧ RtR w v q)
theorem Reg.arg {w : World} {lo hi : Nat} {v : Value} {k : Int} {q : Rat} (h : Reg w lo hi v k q) : Arg w v k q := ⟨h.1, fun e => ⟨(h.2 e).1, (h.2 e).2.rd⟩⟩
theorem Arg.x {w w1 : World} {p : Nat} {v : Value} {k e : Int} {q : Rat} (h : Arg w v k q) (hp : Way w p e) (hb : BelX p w w1) : Arg w1 v k q :=
  ⟨h.1.x hp hb, fun e => ⟨(h.2 e).1, (h.2 e).2.x hp hb⟩⟩
theorem Arg.below {w w1 : World} {v : Value} {k : Int} {q : Rat} (h : Arg w v k q) (hb : Below w.heap.size w w1) : Arg w1 v k q :=
  ⟨h.1.below hb, fun e => ⟨(h.2 e).1, (h.2 e).2.below hb⟩⟩
theorem Arg.weak {w : World} {v : Value} {k k' : Int} {q : Rat} (h : Arg w v k q) (hk : k' = 0 → k = 0) : Arg w v k' q := ⟨h.1, fun e => h.2 (hk e)⟩
theorem RtR.set3 {w : World} {v x y z : Value} {b : Nat} {q : Rat} (h : RtR w v q) (hb : ∀ o n, w.cell? ⟨b, o, none⟩ ≠ some (.int .u32 n)) : RtR (set3 w b x y z) v q := by
  obtain ⟨A, c, A', c', rfl, h1, h2⟩ := h
  have key : ∀ {A : Option Addr} {n c : Nat} {l : List Nat}, Rd w A n c l → Rd (Go.Proofs.YtcbkijeonilcjaaGreat.set3 w b x y z) A n c l := by
    intro A n c l h
    refine ⟨h.len, h.lim, h.cap, h.big, fun hn => ?_⟩
    obtain ⟨b', o, e, hc⟩ := h.cell hn
    refine ⟨b', o, e, fun j hj => ?_⟩
    have h1 := hc j hj
    have hbp : b' ≠ b := fun e => by rw [e] at h1; exact hb _ _ h1
    exact cell_set3 h1 hbp
  exact ⟨_, _, _, _, rfl, key h1, key h2⟩
theorem Arg.set3 {w : World} {v x y z : Value} {b : Nat} {k : Int} {q : Rat} (h : Arg w v k q) (hb : ∀ o n, w.cell? ⟨b, o, none⟩ ≠ some (.int .u32 n)) : Arg (set3 w b x y z) v k q :=
  ⟨h.1.set3 hb, fun e => ⟨(h.2 e).1, (h.2 e).2.set3 hb⟩⟩

theorem way_mul {p : Nat} {e : Int} {a b : Rat} {va vb : Value} (w : World) (hp : Way w p e) (ha : Arg w va e a) (hb : Arg w vb e b) :
    Calls Tryz.prog 299 #[.pointer (some ⟨p, 0, none⟩), va, vb] w fun e1 w' => ∃ v, e1 = .returned v ∧ Way w' p (nextE e (a * b)) ∧ Reg w' w.heap.size w'.heap.size v (nextE e (a * b)) (a * b) ∧ BelX p w w' := by
  by_cases he : e = 0
  · subst he
    refine (way_mul_ok w hp (ha.2 rfl).2 (hb.2 rfl).2 (ha.2 rfl).1 (hb.2 rfl).1).mono ?_
    rintro e1 w' ⟨v, k, rfl, hW, hA, hX⟩
    rcases hA with ⟨h1, rfl, h3⟩ | ⟨h1, rfl, rfl⟩
    · have : nextE 0 (a * b) = 0 := nextE_zero.2 ⟨rfl, h1⟩
      rw [this]
      exact ⟨v, rfl, hW, h3.reg h1 0, hX⟩
    · have : nextE 0 (a * b) = 3 := by unfold nextE; rw [if_pos rfl, if_neg h1]
      rw [this]
      exact ⟨_, rfl, hW, ⟨RawR.rt0 _, fun h => by cases h⟩, hX⟩
  · refine (way_mul_no w hp he ha.1 hb.1).mono ?_
    rintro e1 w' ⟨rfl, hW, hX⟩
    have : nextE e (a * b) = e := by unfold nextE; rw [if_neg he]
    rw [this]
    exact ⟨_, rfl, hW, ⟨RawR.rt0 _, fun h => absurd h he⟩, hX⟩
theorem way_add {p : Nat} {e : Int} {a b : Rat} {va vb : Value} (w : World) (hp : Way w p e) (ha : Arg w va e a) (hb : Arg w vb e b) :
    Calls Tryz.prog 300 #[.pointer (some ⟨p, 0, none⟩), va, vb] w fun e1 w' => ∃ v, e1 = .returned v ∧ Way w' p (nextE e (a + b)) ∧ Reg w' w.heap.size w'.heap.size v (nextE e (a + b)) (a + b) ∧ BelX p w w' := by
  by_cases he : e = 0
  · subst he
    refine (way_add_ok w hp (ha.2 rfl).2 (hb.2 rfl).2 (ha.2 rfl).1 (hb.2 rfl).1).mono ?_
    rintro e1 w' ⟨v, k, rfl, hW, hA, hX⟩
    rcases hA with ⟨h1, rfl, h3⟩ | ⟨h1, rfl, rfl⟩
    · have : nextE 0 (a + b) = 0 := nextE_zero.2 ⟨rfl, h1⟩
      rw [this]
      exact ⟨v, rfl, hW, h3.reg h1 0, hX⟩
    · have : nextE 0 (a + b) = 3 := by unfold nextE; rw [if_pos rfl, if_neg h1]
      rw [this]
      exact ⟨_, rfl, hW, ⟨RawR.rt0 _, fun h => by cases h⟩, hX⟩
  · refine (way_add_no w hp he ha.1 hb.1).mono ?_
    rintro e1 w' ⟨rfl, hW, hX⟩
    have : nextE e (a + b) = e := by unfold nextE; rw [if_neg he]
    rw [this]
    exact ⟨_, rfl, hW, ⟨RawR.rt0 _, fun h => absurd h he⟩, hX⟩
theorem way_sub {p : Nat} {e : Int} {a b : Rat} {va vb : Value} (w : World) (hp : Way w p e) (ha : Arg w va e a) (hb : Arg w vb e b) :
    Calls Tryz.prog 246 #[.pointer (some ⟨p, 0, none⟩), va, vb] w fun e1 w' => ∃ v, e1 = .returned v ∧ Way w' p (nextE e (a - b)) ∧ Reg w' w.heap.size w'.heap.size v (nextE e (a - b)) (a - b) ∧ BelX p w w' := by
  by_cases he : e = 0
  · subst he
    refine (way_sub_ok w hp (ha.2 rfl).2 (hb.2 rfl).2 (ha.2 rfl).1 (hb.2 rfl).1).mono ?_
    rintro e1 w' ⟨v, k, rfl, hW, hA, hX⟩
    rcases hA with ⟨h1, rfl, h3⟩ | ⟨h1, rfl, rfl⟩
    · have : nextE 0 (a - b) = 0 := nextE_zero.2 ⟨rfl, h1⟩
      rw [this]
      exact ⟨v, rfl, hW, h3.reg h1 0, hX⟩
    · have : nextE 0 (a - b) = 3 := by unfold nextE; rw [if_pos rfl, if_neg h1]
      rw [this]
      exact ⟨_, rfl, hW, ⟨RawR.rt0 _, fun h => by cases h⟩, hX⟩
  · refine (way_sub_no w hp he ha.1 hb.1).mono ?_
    rintro e1 w' ⟨rfl, hW, hX⟩
    have : nextE e (a - b) = e := by unfold nextE; rw [if_neg he]
    rw [this]
    exact ⟨_, rfl, hW, ⟨RawR.rt0 _, fun h => absurd h he⟩, hX⟩

theorem RawR.agg {w : World} {v : Value} (h : RawR w v) : ∃ g A n c A' n' c', v = .agg #[.bool g, .slice A n c, .slice A' n' c'] := by
  obtain ⟨g, A, n, c, l, A', n', c', l', rfl, h1, h2⟩ := h
  exact ⟨_, _, _, _, _, _, _, rfl⟩

theorem cell6 {w : World} {b : Nat} {x y z x' y' z' : Value} {T : TypeId} (h : w.heap[b]? = some (.cells #[x, y, z, x', y', z'] T)) :
    (w.cell? ⟨b, 0, none⟩ = some x ∧ w.cell? ⟨b, 1, none⟩ = some y ∧ w.cell? ⟨b, 2, none⟩ = some z) ∧ w.cell? ⟨b, 3, none⟩ = some x' ∧ w.cell? ⟨b, 4, none⟩ = some y' ∧ w.cell? ⟨b, 5, none⟩ = some z' := by
  refine ⟨⟨?_, ?_, ?_⟩, ?_, ?_, ?_⟩ <;> simp [World.cell?, h]
theorem BelX.keep {p b : Nat} {w w' : World} {o : Obj} (h : BelX p w w') (hb : w.heap[b]? = some o) (hne : b ≠ p) : w'.heap[b]? = some o := by
  rw [h.block b (Array.getElem?_eq_some_iff.1 hb).1 hne]; exact hb
theorem alloc_keep {b : Nat} {w : World} {o : Obj} (hb : w.heap[b]? = some o) (x : Obj) : (w.alloc x).heap[b]? = some o := by
  rw [Below.heap_alloc _ _ _ (Array.getElem?_eq_some_iff.1 hb).1]; exact hb
theorem set3_keep {b b' : Nat} {w : World} {o : Obj} {x y z : Value} (hb : w.heap[b]? = some o) (hne : b ≠ b') : (set3 w b' x y z).heap[b]? = some o := by
  unfold set3
  rw [Below.heap_setCell _ _ _ _ hne, Below.heap_setCell _ _ _ _ hne, Below.heap_setCell _ _ _ _ hne]; exact hb
theorem set3_own {b : Nat} {w : World} {x y z a a' a'' : Value} {T : TypeId} (hb : w.heap[b]? = some (.cells #[a, a', a''] T (0, 0))) : (set3 w b x y z).heap[b]? = some (.cells #[x, y, z] T (0, 0)) := by
  unfold set3 World.setCell
  simp [Array.getElem?_modify, hb]
theorem heap_lt {b : Nat} {w : World} {o : Obj} (hb : w.heap[b]? = some o) : b < w.heap.size := (Array.getElem?_eq_some_iff.1 hb).1
/-- what lies in some blocks -/
def Has (w : World) (l : List (Nat × Obj)) : Prop := ∀ q ∈ l, w.heap[q.1]? = some q.2
theorem Has.x {w w' : World} {p : Nat} {l : List (Nat × Obj)} (h : Has w l) (hX : BelX p w w') (hp : ∀ q ∈ l, q.1 ≠ p) : Has w' l := fun q hq => hX.keep (h q hq) (hp q hq)
theorem Has.below {w w' : World} {l : List (Nat × Obj)} (h : Has w l) (hX : Below w.heap.size w w') : Has w' l := fun q hq => by rw [hX.block _ (heap_lt (h q hq))]; exact h q hq
theorem Has.set3 {w : World} {l : List (Nat × Obj)} {b : Nat} {x y z : Value} (h : Has w l) (hp : ∀ q ∈ l, q.1 ≠ b) : Has (set3 w b x y z) l := fun q hq => set3_keep (h q hq) (hp q hq)
theorem Has.cons {w : World} {l : List (Nat × Obj)} {b : Nat} {o : Obj} (h : Has w l) (hb : w.heap[b]? = some o) : Has w ((b, o) :: l) := fun q hq => by
  rcases List.mem_cons.1 hq with rfl | hq
  · exact hb
  · exact h q hq
/-- a fraction's cells -/
def rtO (g : Bool) (A : Option Addr) (n c : Nat) (A' : Option Addr) (n' c' : Nat) : Obj := .cells #[.bool g, .slice A n c, .slice A' n' c'] 24 (0, 0)
theorem rtO_no {w : World} {b : Nat} {g : Bool} {A A' : Option Addr} {n n' c c' : Nat} (h : w.heap[b]? = some (rtO g A n c A' n' c')) : (∀ o m, w.cell? ⟨b, o, none⟩ ≠ some (.int .u32 m)) ∧ (∀ cur, w.heap[b]? ≠ some (.cells cur 116 (0, 0))) ∧ (∀ p e, Way w p e → b ≠ p) := by
  refine ⟨no_word h, fun cur hc => ?_, fun p e hW hbp => ?_⟩
  · rw [h] at hc; injection hc with hc; injection hc with _ hc; exact absurd hc (by decide)
  · subst hbp
    unfold Way at hW; rw [h] at hW; injection hW with hW; injection hW with _ hW; exact absurd hW (by decide)
def Args (w : World) (k : Int) (va vb vc vd : Value) (a b c d : Rat) : Prop := Arg w va k a ∧ Arg w vb k b ∧ Arg w vc k c ∧ Arg w vd k d
section
variable {w w1 : World} {k k' e : Int} {va vb vc vd xx yy zz : Value} {a b c d : Rat} {p bl : Nat}
theorem Args.x (h : Args w k va vb vc vd a b c d) (hp : Way w p e) (hb : BelX p w w1) : Args w1 k va vb vc vd a b c d := ⟨h.1.x hp hb, h.2.1.x hp hb, h.2.2.1.x hp hb, h.2.2.2.x hp hb⟩
theorem Args.below (h : Args w k va vb vc vd a b c d) (hb : Below w.heap.size w w1) : Args w1 k va vb vc vd a b c d := ⟨h.1.below hb, h.2.1.below hb, h.2.2.1.below hb, h.2.2.2.below hb⟩
theorem Args.weak (h : Args w k va vb vc vd a b c d) (hk : k' = 0 → k = 0) : Args w k' va vb vc vd a b c d := ⟨h.1.weak hk, h.2.1.weak hk, h.2.2.1.weak hk, h.2.2.2.weak hk⟩
theorem Args.set3 (h : Args w k va vb vc vd a b c d) (hb : ∀ o n, w.cell? ⟨bl, o, none⟩ ≠ some (.int .u32 n)) : Args (set3 w bl xx yy zz) k va vb vc vd a b c d := ⟨h.1.set3 hb, h.2.1.set3 hb, h.2.2.1.set3 hb, h.2.2.2.set3 hb⟩
end
theorem nextE_imp {k : Int} {q : Rat} (h : nextE k q = 0) : k = 0 := (nextE_zero.1 h).1

theorem held {w : World} {b b' b'' : Nat} {g g' g'' : Bool} {A A' A'' B B' B'' : Option Addr} {n n' n'' c c' c'' m m' m'' d d' d'' : Nat} (h : w.heap[b]? = some (rtO g A n c B m d)) (h' : w.heap[b']? = some (rtO g' A' n' c' B' m' d')) (h'' : w.heap[b'']? = some (rtO g'' A'' n'' c'' B'' m'' d'')) :
    (w.cell? ⟨b, 0, none⟩ = some (.bool g) ∧ w.cell? ⟨b, 1, none⟩ = some (.slice A n c) ∧ w.cell? ⟨b, 2, none⟩ = some (.slice B m d)) ∧ (w.cell? ⟨b', 0, none⟩ = some (.bool g') ∧ w.cell? ⟨b', 1, none⟩ = some (.slice A' n' c') ∧ w.cell? ⟨b', 2, none⟩ = some (.slice B' m' d')) ∧ (w.cell? ⟨b'', 0, none⟩ = some (.bool g'') ∧ w.cell? ⟨b'', 1, none⟩ = some (.slice A'' n'' c'') ∧ w.cell? ⟨b'', 2, none⟩ = some (.slice B'' m'' d'')) := by
  obtain ⟨x0, x1, x2, _, _, _⟩ := cell3 h
  obtain ⟨y0, y1, y2, _, _, _⟩ := cell3 h'
  obtain ⟨z0, z1, z2, _, _, _⟩ := cell3 h''
  exact ⟨⟨x0, x1, x2⟩, ⟨y0, y1, y2⟩, z0, z1, z2⟩
theorem helds {w : World} {b b' b'' bb : Nat} {x y z : Value} {g g' g'' : Bool} {A A' A'' B B' B'' : Option Addr} {n n' n'' c c' c'' m m' m'' d d' d'' : Nat} (h : w.heap[b]? = some (rtO g A n c B m d)) (h' : w.heap[b']? = some (rtO g' A' n' c' B' m' d')) (h'' : w.heap[b'']? = some (rtO g'' A'' n'' c'' B'' m'' d'')) (e1 : b' ≠ b) (e2 : b'' ≠ b) (e3 : b' ≠ bb) (e4 : b'' ≠ bb) (e5 : b ≠ bb) :
    let S := fun w : World => (w.cell? ⟨b, 0, none⟩ = some (.bool g) ∧ w.cell? ⟨b, 1, none⟩ = some (.slice A n c) ∧ w.cell? ⟨b, 2, none⟩ = some (.slice B m d)) ∧ (w.cell? ⟨b', 0, none⟩ = some (.bool g') ∧ w.cell? ⟨b', 1, none⟩ = some (.slice A' n' c') ∧ w.cell? ⟨b', 2, none⟩ = some (.slice B' m' d')) ∧ (w.cell? ⟨b'', 0, none⟩ = some (.bool g'') ∧ w.cell? ⟨b'', 1, none⟩ = some (.slice A'' n'' c'') ∧ w.cell? ⟨b'', 2, none⟩ = some (.slice B'' m'' d''))
    S w ∧ S (((w.setCell ⟨b, 0, none⟩ (.bool g)).setCell ⟨b, 1, none⟩ (.slice A n c)).setCell ⟨b, 2, none⟩ (.slice B m d)) ∧ S (((w.setCell ⟨bb, 0, none⟩ x).setCell ⟨bb, 1, none⟩ y).setCell ⟨bb, 2, none⟩ z) ∧
    S (((((((w.setCell ⟨b, 0, none⟩ (.bool g)).setCell ⟨b, 1, none⟩ (.slice A n c)).setCell ⟨b, 2, none⟩ (.slice B m d))).setCell ⟨bb, 0, none⟩ x).setCell ⟨bb, 1, none⟩ y).setCell ⟨bb, 2, none⟩ z) ∧
    S (((((((w.setCell ⟨bb, 0, none⟩ x).setCell ⟨bb, 1, none⟩ y).setCell ⟨bb, 2, none⟩ z)).setCell ⟨b, 0, none⟩ (.bool g)).setCell ⟨b, 1, none⟩ (.slice A n c)).setCell ⟨b, 2, none⟩ (.slice B m d)) :=
  ⟨held h h' h'', held (set3_own h) (set3_keep h' e1) (set3_keep h'' e2), held (set3_keep h e5) (set3_keep h' e3) (set3_keep h'' e4),
   held (set3_keep (set3_own h) e5) (set3_keep (set3_keep h' e1) e3) (set3_keep (set3_keep h'' e2) e4), held (set3_own (set3_keep h e5)) (set3_keep (set3_keep h' e3) e1) (set3_keep (set3_keep h'' e4) e2)⟩
/-- the error behind a product -/
def prodE (e : Int) (a b c d : Rat) : Int := nextE (nextE (nextE (nextE (nextE (nextE e (a * c)) (b * d)) (a * c - b * d)) (a * d)) (b * c)) (a * d + b * c)

/-- the value of a complex fraction, of its parts' values -/
def gvV (v u : Value) : Value := .agg (v.cells ++ u.cells)

set_option maxRecDepth 100000 in
set_option maxHeartbeats 4000000 in
theorem way_product {p : Nat} {e : Int} {a b c d : Rat} {va vb vc vd : Value} (w : World) (hp : Way w p e) (hA : Args w e va vb vc vd a b c d) :
    Calls Tryz.prog 244 #[.pointer (some ⟨p, 0, none⟩), gvV va vb, gvV vc vd] w fun e1 w' => ∃ v u m, e1 = .returned (.tuple #[v, u]) ∧ Way w' p (prodE e a b c d) ∧ w.heap.size ≤ m ∧ m ≤ w'.heap.size ∧ Reg w' w.heap.size m v (prodE e a b c d) (a * c - b * d) ∧ Reg w' m w'.heap.size u (prodE e a b c d) (a * d + b * c) ∧ BelX p w w' := by
  obtain ⟨g1, A1, n1, c1, A1', n1', c1', rfl⟩ := hA.1.1.agg
  obtain ⟨g2, A2, n2, c2, A2', n2', c2', rfl⟩ := hA.2.1.1.agg
  obtain ⟨g3, A3, n3, c3, A3', n3', c3', rfl⟩ := hA.2.2.1.1.agg
  obtain ⟨g4, A4, n4, c4, A4', n4', c4', rfl⟩ := hA.2.2.2.1.agg
  show Calls Tryz.prog 244 #[.pointer (some ⟨p, 0, none⟩), .agg #[.bool g1, .slice A1 n1 c1, .slice A1' n1' c1', .bool g2, .slice A2 n2 c2, .slice A2' n2' c2'], .agg #[.bool g3, .slice A3 n3 c3, .slice A3' n3' c3', .bool g4, .slice A4 n4 c4, .slice A4' n4' c4']] w _
  have hplt := hp.lt
  obtain ⟨W0, hW0⟩ : ∃ x, ((((w.alloc (.cells #[.bool g1, .slice A1 n1 c1, .slice A1' n1' c1', .bool g2, .slice A2 n2 c2, .slice A2' n2' c2'] 83)).alloc (.cells #[.bool g3, .slice A3 n3 c3, .slice A3' n3' c3', .bool g4, .slice A4 n4 c4, .slice A4' n4' c4'] 83)).alloc (.cells #[.bool false, .slice none 0 0, .slice none 0 0] 24)).alloc (.cells #[.bool false, .slice none 0 0, .slice none 0 0] 24)) = x := ⟨_, rfl⟩
  have hb0 : Below w.heap.size w W0 := by rw [← hW0]; exact ((((Below.refl _ _).alloc (Nat.le_refl _) _).alloc (by simp) _).alloc (by simp; omega) _).alloc (by simp; omega) _
  have hs0 : W0.heap.size = w.heap.size + 4 := by rw [← hW0]; simp
  have hH0 : Has W0 [(w.heap.size, .cells #[.bool g1, .slice A1 n1 c1, .slice A1' n1' c1', .bool g2, .slice A2 n2 c2, .slice A2' n2' c2'] 83), (w.heap.size + 1, .cells #[.bool g3, .slice A3 n3 c3, .slice A3' n3' c3', .bool g4, .slice A4 n4 c4, .slice A4' n4' c4'] 83), (w.heap.size + 1 + 1 + 1, rtO false none 0 0 none 0 0)] := by
    intro q hq
    simp only [List.mem_cons, List.not_mem_nil, or_false] at hq
    rcases hq with rfl | rfl | rfl <;> rw [← hW0]
    · exact alloc_keep (alloc_keep (alloc_keep (heap_alloc_new w _) _) _) _
    · exact alloc_keep (alloc_keep (by simpa using heap_alloc_new (w.alloc _) _) _) _
    · simpa [rtO] using heap_alloc_new (((w.alloc _).alloc _).alloc _) _
  have hR0 : W0.heap[w.heap.size + 1 + 1]? = some (rtO false none 0 0 none 0 0) := by
    rw [← hW0]; exact alloc_keep (by simpa [rtO] using heap_alloc_new ((w.alloc _).alloc _) _) _
  have HP0 := Lib.hid (And.intro (hp.below hb0) (And.intro (hA.below hb0) (And.intro (toX hb0 p) hs0)))
  have HH0 := Lib.hid (And.intro hH0 hR0)
  obtain ⟨⟨c0, c1, c2⟩, c3, c4, c5⟩ := cell6 (hH0 _ (List.mem_cons_self ..))
  obtain ⟨⟨d0, d1, d2⟩, d3, d4, d5⟩ := cell6 (hH0 _ (List.mem_cons_of_mem _ (List.mem_cons_self ..)))
  clear hb0 hp hA hs0 hH0 hR0
  go_enter Tryz.func244, Tryz.ntmps244
  go_wp2_with fail
  have HW0 := Lib.hid hW0
  clear hW0 c0 c1 c2 c3 c4 c5 d0 d1 d2 d3 d4 d5
  -- the first product
  refine (way_mul _ HP0.out.1 HP0.out.2.1.1 HP0.out.2.1.2.2.1).mono ?_
  rintro e1 w1 ⟨v1, rfl, hW1, hR1, hX1⟩
  obtain ⟨gx, Ax, nx, cx, Ax', nx', cx', rfl⟩ := hR1.1.agg
  obtain ⟨w1', hw1'⟩ : ∃ x, w1.alloc (.cells #[.bool gx, .slice Ax nx cx, .slice Ax' nx' cx'] 24) = x := ⟨_, rfl⟩
  have HS1 : Hid (w1'.heap.size = w1.heap.size + 1 ∧ w.heap.size + 4 ≤ w1.heap.size) := by
    refine ⟨by rw [← hw1']; simp, ?_⟩
    have := hX1.size; have := HP0.out.2.2.2; omega
  have hal : Below w1.heap.size w1 w1' := by rw [← hw1']; exact (Below.refl _ _).alloc (Nat.le_refl _) _
  have HH1 := Lib.hid (And.intro ((HH0.out.1.x hX1 (by simp; omega)).below hal) (And.intro (show w1'.heap[w.heap.size + 1 + 1]? = some (rtO false none 0 0 none 0 0) from by rw [← hw1']; exact alloc_keep (hX1.keep HH0.out.2 (by omega)) _) (show w1'.heap[w1.heap.size]? = some (rtO gx Ax nx cx Ax' nx' cx') from by rw [← hw1']; exact heap_alloc_new w1 _)))
  have HP1 := Lib.hid (And.intro (hW1.below hal) (And.intro (((HP0.out.2.1.x HP0.out.1 hX1).below hal).weak (k' := nextE e (a * c)) nextE_imp) (And.intro (hR1.below hal) (HP0.out.2.2.1.trans (hX1.trans (toX hal p))))))
  clear hW1 hR1 hX1 hal
  obtain ⟨⟨c0, c1, c2⟩, c3, c4, c5⟩ := cell6 (HH1.out.1 _ (List.mem_cons_self ..))
  obtain ⟨⟨d0, d1, d2⟩, d3, d4, d5⟩ := cell6 (HH1.out.1 _ (List.mem_cons_of_mem _ (List.mem_cons_self ..)))
  go_wp2_with fail
  have HW1 := Lib.hid hw1'
  clear hw1' c0 c1 c2 c3 c4 c5 d0 d1 d2 d3 d4 d5
  -- the second one
  refine (way_mul _ HP1.out.1 HP1.out.2.1.2.1 HP1.out.2.1.2.2.2).mono ?_
  rintro e1 w2 ⟨v2, rfl, hW2, hR2, hX2⟩
  obtain ⟨gy, Ay, ny, cy, Ay', ny', cy', rfl⟩ := hR2.1.agg
  obtain ⟨w2', hw2'⟩ : ∃ x, w2.alloc (.cells #[.bool gy, .slice Ay ny cy, .slice Ay' ny' cy'] 24) = x := ⟨_, rfl⟩
  have HS2 : Hid (w2'.heap.size = w2.heap.size + 1 ∧ w1'.heap.size ≤ w2.heap.size) := by
    refine ⟨by rw [← hw2']; simp, hX2.size⟩
  have hal : Below w2.heap.size w2 w2' := by rw [← hw2']; exact (Below.refl _ _).alloc (Nat.le_refl _) _
  have hpx : w1.heap.size ≠ p := by have := HS1.out; omega
  have HH2 := Lib.hid (And.intro ((HH1.out.1.x hX2 (by simp; omega)).below hal) (And.intro (show w2'.heap[w.heap.size + 1 + 1]? = some (rtO false none 0 0 none 0 0) from by rw [← hw2']; exact alloc_keep (hX2.keep HH1.out.2.1 (by omega)) _) (And.intro (show w2'.heap[w1.heap.size]? = some (rtO gx Ax nx cx Ax' nx' cx') from by rw [← hw2']; exact alloc_keep (hX2.keep HH1.out.2.2 hpx) _) (show w2'.heap[w2.heap.size]? = some (rtO gy Ay ny cy Ay' ny' cy') from by rw [← hw2']; exact heap_alloc_new w2 _))))
  have HP2 := Lib.hid (And.intro (hW2.below hal) (And.intro (((HP1.out.2.1.x HP1.out.1 hX2).below hal).weak (k' := nextE (nextE e (a * c)) (b * d)) nextE_imp) (And.intro (((HP1.out.2.2.1.x HP1.out.1 hX2).below hal).weak (k' := nextE (nextE e (a * c)) (b * d)) nextE_imp) (And.intro (hR2.below hal) (HP1.out.2.2.2.trans (hX2.trans (toX hal p)))))))
  clear hW2 hR2 hX2 hal
  obtain ⟨x0, x1, x2, _, _, _⟩ := cell3 HH2.out.2.2.1
  obtain ⟨y0, y1, y2, _, _, _⟩ := cell3 HH2.out.2.2.2
  go_wp2_with fail
  have HW2 := Lib.hid hw2'
  clear hw2' x0 x1 x2 y0 y1 y2
  -- their difference
  have hpx : w1.heap.size ≠ p := by have := HS1.out; omega
  have hpy : w2.heap.size ≠ p := by have := HS1.out; have := HS2.out; omega
  refine (way_sub _ HP2.out.1 HP2.out.2.2.1.arg HP2.out.2.2.2.1.arg).mono ?_
  rintro e1 w3 ⟨v3, rfl, hW3, hR3, hX3⟩
  obtain ⟨gz, Az, nz, cz, Az', nz', cz', rfl⟩ := hR3.1.agg
  have hr3 : w3.heap[w.heap.size + 1 + 1]? = some (rtO false none 0 0 none 0 0) := hX3.keep HH2.out.2.1 (by omega)
  obtain ⟨r0, r1, r2, s0, s1, s2⟩ := cell3 hr3
  obtain ⟨w3', hw3'⟩ : ∃ x, set3 w3 (w.heap.size + 1 + 1) (.bool gz) (.slice Az nz cz) (.slice Az' nz' cz') = x := ⟨_, rfl⟩
  have HS3 : Hid (w3'.heap.size = w3.heap.size ∧ w2'.heap.size ≤ w3.heap.size) := ⟨by rw [← hw3', set3_size], hX3.size⟩
  have HH3 := Lib.hid (And.intro (show Has w3' _ from by rw [← hw3']; exact (HH2.out.1.x hX3 (by simp; omega)).set3 (by simp; try omega)) (And.intro (show w3'.heap[w.heap.size + 1 + 1]? = some (rtO gz Az nz cz Az' nz' cz') from by rw [← hw3']; exact set3_own hr3)
    (And.intro (show w3'.heap[w1.heap.size]? = some (rtO gx Ax nx cx Ax' nx' cx') from by rw [← hw3']; exact set3_keep (hX3.keep HH2.out.2.2.1 hpx) (by have := HS1.out; omega)) (show w3'.heap[w2.heap.size]? = some (rtO gy Ay ny cy Ay' ny' cy') from by rw [← hw3']; exact set3_keep (hX3.keep HH2.out.2.2.2 hpy) (by have := HS1.out; have := HS2.out; omega)))))
  have HP3 : Hid (Way w3' p (nextE (nextE (nextE e (a * c)) (b * d)) (a * c - b * d)) ∧ Args w3' (nextE (nextE (nextE e (a * c)) (b * d)) (a * c - b * d)) (.agg #[.bool g1, .slice A1 n1 c1, .slice A1' n1' c1']) (.agg #[.bool g2, .slice A2 n2 c2, .slice A2' n2' c2']) (.agg #[.bool g3, .slice A3 n3 c3, .slice A3' n3' c3']) (.agg #[.bool g4, .slice A4 n4 c4, .slice A4' n4' c4']) a b c d ∧ Reg w3' w2'.heap.size w3.heap.size (.agg #[.bool gz, .slice Az nz cz, .slice Az' nz' cz']) (nextE (nextE (nextE e (a * c)) (b * d)) (a * c - b * d)) (a * c - b * d) ∧ BelX p w w3') := by
    show _ ∧ _ ∧ _ ∧ _
    rw [← hw3']
    exact ⟨hW3.set3 (by omega), (((HP2.out.2.1.x HP2.out.1 hX3).set3 (rtO_no hr3).1).weak nextE_imp), hR3.set3 (rtO_no hr3).1 (rtO_no hr3).2.1, (HP2.out.2.2.2.2.trans hX3).set3 (by omega)⟩
  clear hW3 hR3 hX3 hr3
  unfold set3 at hw3'
  obtain ⟨⟨c0, c1, c2⟩, c3, c4, c5⟩ := cell6 (HH3.out.1 _ (List.mem_cons_self ..))
  obtain ⟨⟨d0, d1, d2⟩, d3, d4, d5⟩ := cell6 (HH3.out.1 _ (List.mem_cons_of_mem _ (List.mem_cons_self ..)))
  go_wp2_with fail
  have HW3 := Lib.hid hw3'
  clear hw3' c0 c1 c2 c3 c4 c5 d0 d1 d2 d3 d4 d5 r0 r1 r2 s0 s1 s2
  -- the third product
  refine (way_mul _ HP3.out.1 HP3.out.2.1.1 HP3.out.2.1.2.2.2).mono ?_
  rintro e1 w4 ⟨v4, rfl, hW4, hR4, hX4⟩
  obtain ⟨gu, Au, nu, cu, Au', nu', cu', rfl⟩ := hR4.1.agg
  have hr4 : w4.heap[w1.heap.size]? = some (rtO gx Ax nx cx Ax' nx' cx') := hX4.keep HH3.out.2.2.1 hpx
  obtain ⟨r0, r1, r2, s0, s1, s2⟩ := cell3 hr4
  obtain ⟨w4', hw4'⟩ : ∃ x, set3 w4 w1.heap.size (.bool gu) (.slice Au nu cu) (.slice Au' nu' cu') = x := ⟨_, rfl⟩
  have HS4 : Hid (w4'.heap.size = w4.heap.size ∧ w3'.heap.size ≤ w4.heap.size) := ⟨by rw [← hw4', set3_size], hX4.size⟩
  have HH4 := Lib.hid (And.intro (show Has w4' _ from by rw [← hw4']; exact (HH3.out.1.x hX4 (by simp; omega)).set3 (by simp; have := HS1.out; omega)) (And.intro (show w4'.heap[w.heap.size + 1 + 1]? = some (rtO gz Az nz cz Az' nz' cz') from by rw [← hw4']; exact set3_keep (hX4.keep HH3.out.2.1 (by omega)) (by have := HS1.out; omega))
    (And.intro (show w4'.heap[w1.heap.size]? = some (rtO gu Au nu cu Au' nu' cu') from by rw [← hw4']; exact set3_own hr4) (show w4'.heap[w2.heap.size]? = some (rtO gy Ay ny cy Ay' ny' cy') from by rw [← hw4']; exact set3_keep (hX4.keep HH3.out.2.2.2 hpy) (by have := HS1.out; have := HS2.out; omega)))))
  have HP4 : Hid (Way w4' p (nextE (nextE (nextE (nextE e (a * c)) (b * d)) (a * c - b * d)) (a * d)) ∧ Args w4' (nextE (nextE (nextE (nextE e (a * c)) (b * d)) (a * c - b * d)) (a * d)) (.agg #[.bool g1, .slice A1 n1 c1, .slice A1' n1' c1']) (.agg #[.bool g2, .slice A2 n2 c2, .slice A2' n2' c2']) (.agg #[.bool g3, .slice A3 n3 c3, .slice A3' n3' c3']) (.agg #[.bool g4, .slice A4 n4 c4, .slice A4' n4' c4']) a b c d ∧ Reg w4' w2'.heap.size w3.heap.size (.agg #[.bool gz, .slice Az nz cz, .slice Az' nz' cz']) (nextE (nextE (nextE (nextE e (a * c)) (b * d)) (a * c - b * d)) (a * d)) (a * c - b * d) ∧ Reg w4' w3'.heap.size w4.heap.size (.agg #[.bool gu, .slice Au nu cu, .slice Au' nu' cu']) (nextE (nextE (nextE (nextE e (a * c)) (b * d)) (a * c - b * d)) (a * d)) (a * d) ∧ BelX p w w4') := by
    show _ ∧ _ ∧ _ ∧ _ ∧ _
    rw [← hw4']
    exact ⟨hW4.set3 hpx, (((HP3.out.2.1.x HP3.out.1 hX4).set3 (rtO_no hr4).1).weak nextE_imp), ((HP3.out.2.2.1.x HP3.out.1 hX4).set3 (rtO_no hr4).1 (rtO_no hr4).2.1).weak nextE_imp, hR4.set3 (rtO_no hr4).1 (rtO_no hr4).2.1, (HP3.out.2.2.2.trans hX4).set3 (by have := HS1.out; omega)⟩
  clear hW4 hR4 hX4 hr4
  unfold set3 at hw4'
  obtain ⟨⟨c0, c1, c2⟩, c3, c4, c5⟩ := cell6 (HH4.out.1 _ (List.mem_cons_self ..))
  obtain ⟨⟨d0, d1, d2⟩, d3, d4, d5⟩ := cell6 (HH4.out.1 _ (List.mem_cons_of_mem _ (List.mem_cons_self ..)))
  go_wp2_with fail
  have HW4 := Lib.hid hw4'
  clear hw4' c0 c1 c2 c3 c4 c5 d0 d1 d2 d3 d4 d5 r0 r1 r2 s0 s1 s2
  -- the fourth
  refine (way_mul _ HP4.out.1 HP4.out.2.1.2.1 HP4.out.2.1.2.2.1).mono ?_
  rintro e1 w5 ⟨v5, rfl, hW5, hR5, hX5⟩
  obtain ⟨gt, At, nt, ct, At', nt', ct', rfl⟩ := hR5.1.agg
  have hr5 : w5.heap[w2.heap.size]? = some (rtO gy Ay ny cy Ay' ny' cy') := hX5.keep HH4.out.2.2.2 hpy
  obtain ⟨r0, r1, r2, s0, s1, s2⟩ := cell3 hr5
  obtain ⟨w5', hw5'⟩ : ∃ x, set3 w5 w2.heap.size (.bool gt) (.slice At nt ct) (.slice At' nt' ct') = x := ⟨_, rfl⟩
  have HS5 : Hid (w5'.heap.size = w5.heap.size ∧ w4'.heap.size ≤ w5.heap.size) := ⟨by rw [← hw5', set3_size], hX5.size⟩
  have HH5 := Lib.hid (And.intro (show Has w5' _ from by rw [← hw5']; exact (HH4.out.1.x hX5 (by simp; omega)).set3 (by simp; have := HS1.out; have := HS2.out; omega)) (And.intro (show w5'.heap[w.heap.size + 1 + 1]? = some (rtO gz Az nz cz Az' nz' cz') from by rw [← hw5']; exact set3_keep (hX5.keep HH4.out.2.1 (by omega)) (by have := HS1.out; have := HS2.out; omega))
    (And.intro (show w5'.heap[w1.heap.size]? = some (rtO gu Au nu cu Au' nu' cu') from by rw [← hw5']; exact set3_keep (hX5.keep HH4.out.2.2.1 hpx) (by have := HS1.out; have := HS2.out; omega)) (show w5'.heap[w2.heap.size]? = some (rtO gt At nt ct At' nt' ct') from by rw [← hw5']; exact set3_own hr5))))
  have HP5 : Hid (Way w5' p (nextE (nextE (nextE (nextE (nextE e (a * c)) (b * d)) (a * c - b * d)) (a * d)) (b * c)) ∧ Reg w5' w2'.heap.size w3.heap.size (.agg #[.bool gz, .slice Az nz cz, .slice Az' nz' cz']) (nextE (nextE (nextE (nextE (nextE e (a * c)) (b * d)) (a * c - b * d)) (a * d)) (b * c)) (a * c - b * d) ∧ Reg w5' w3'.heap.size w4.heap.size (.agg #[.bool gu, .slice Au nu cu, .slice Au' nu' cu']) (nextE (nextE (nextE (nextE (nextE e (a * c)) (b * d)) (a * c - b * d)) (a * d)) (b * c)) (a * d) ∧ Reg w5' w4'.heap.size w5.heap.size (.agg #[.bool gt, .slice At nt ct, .slice At' nt' ct']) (nextE (nextE (nextE (nextE (nextE e (a * c)) (b * d)) (a * c - b * d)) (a * d)) (b * c)) (b * c) ∧ BelX p w w5') := by
    show _ ∧ _ ∧ _ ∧ _ ∧ _
    rw [← hw5']
    exact ⟨hW5.set3 hpy, ((HP4.out.2.2.1.x HP4.out.1 hX5).set3 (rtO_no hr5).1 (rtO_no hr5).2.1).weak nextE_imp, ((HP4.out.2.2.2.1.x HP4.out.1 hX5).set3 (rtO_no hr5).1 (rtO_no hr5).2.1).weak nextE_imp, hR5.set3 (rtO_no hr5).1 (rtO_no hr5).2.1, (HP4.out.2.2.2.2.trans hX5).set3 (by have := HS1.out; have := HS2.out; omega)⟩
  clear hW5 hR5 hX5 hr5
  unfold set3 at hw5'
  go_wp2_with fail
  have HW5 := Lib.hid hw5'
  clear hw5' r0 r1 r2 s0 s1 s2
  have hdr : Below w5'.heap.size w5' w5'.drew := below_drewN (Below.refl _ _) 1
  have hPd : Way w5'.drew p (nextE (nextE (nextE (nextE (nextE e (a * c)) (b * d)) (a * c - b * d)) (a * d)) (b * c)) := HP5.out.1.below hdr
  have hGu := (HP5.out.2.2.1.below hdr).arg
  have hGt := (HP5.out.2.2.2.1.below hdr).arg
  have HPD := Lib.hid hPd
  have k2 : w5'.drew.heap[w.heap.size + 1 + 1]? = some (rtO gz Az nz cz Az' nz' cz') := HH5.out.2.1
  have k3 : w5'.drew.heap[w.heap.size + 1 + 1 + 1]? = some (rtO false none 0 0 none 0 0) := HH5.out.1 _ (List.mem_cons_of_mem _ (List.mem_cons_of_mem _ (List.mem_cons_self ..)))
  have kx : w5'.drew.heap[w1.heap.size]? = some (rtO gu Au nu cu Au' nu' cu') := HH5.out.2.2.1
  have ky : w5'.drew.heap[w2.heap.size]? = some (rtO gt At nt ct At' nt' ct') := HH5.out.2.2.2
  have H2 := Lib.hid k2
  have H3 := Lib.hid k3
  have Hx := Lib.hid kx
  have Hy := Lib.hid ky
  have HSS : Hid (w.heap.size + 1 + 1 ≠ p ∧ w.heap.size + 1 + 1 + 1 ≠ p ∧ w1.heap.size ≠ p ∧ w2.heap.size ≠ p) := ⟨by omega, by omega, hpx, hpy⟩
  clear k2 k3 kx ky hPd hdr
  have HCALL := Lib.hid (way_add _ HPD.out hGu hGt)
  have hS0 := held H2.out Hx.out Hy.out
  have HS12 : Hid (w1.heap.size ≠ w.heap.size + 1 + 1 ∧ w2.heap.size ≠ w.heap.size + 1 + 1 ∧ w1.heap.size ≠ w.heap.size + 1 + 1 + 1 ∧ w2.heap.size ≠ w.heap.size + 1 + 1 + 1 ∧ w.heap.size + 1 + 1 ≠ w.heap.size + 1 + 1 + 1) := by
    have := HS1.out; have := HS2.out
    exact ⟨by omega, by omega, by omega, by omega, by omega⟩
  go_region_held3 (fun w' => (w'.cell? ⟨w.heap.size + 1 + 1, 0, none⟩ = some (.bool gz) ∧ w'.cell? ⟨w.heap.size + 1 + 1, 1, none⟩ = some (.slice Az nz cz) ∧ w'.cell? ⟨w.heap.size + 1 + 1, 2, none⟩ = some (.slice Az' nz' cz')) ∧ (w'.cell? ⟨w1.heap.size, 0, none⟩ = some (.bool gu) ∧ w'.cell? ⟨w1.heap.size, 1, none⟩ = some (.slice Au nu cu) ∧ w'.cell? ⟨w1.heap.size, 2, none⟩ = some (.slice Au' nu' cu')) ∧ (w'.cell? ⟨w2.heap.size, 0, none⟩ = some (.bool gt) ∧ w'.cell? ⟨w2.heap.size, 1, none⟩ = some (.slice At nt ct) ∧ w'.cell? ⟨w2.heap.size, 2, none⟩ = some (.slice At' nt' ct')))
    (first
      | with_reducible exact hS0
      | with_reducible exact hS6
      | with_reducible exact hSa
      | with_reducible exact hSb
      | with_reducible exact hSab
      | with_reducible exact hSba)
    (first
      | (go_at_call 300; refine HCALL.out.mono ?_; rintro e w6 ⟨v6, rfl, hW6, hR6, hX6⟩; obtain ⟨gs, As, ns, cs, As', ns', cs', rfl⟩ := hR6.1.agg; have hq2 := hX6.keep H2.out HSS.out.1; have hq3 := hX6.keep H3.out HSS.out.2.1; obtain ⟨r0, r1, r2, s0, s1, s2⟩ := cell3 hq2; obtain ⟨q0, q1, q2, t0, t1, t2⟩ := cell3 hq3; obtain ⟨hS6, hSa, hSb, hSab, hSba⟩ := helds (x := .bool gs) (y := .slice As ns cs) (z := .slice As' ns' cs') hq2 (hX6.keep Hx.out HSS.out.2.2.1) (hX6.keep Hy.out HSS.out.2.2.2) HS12.out.1 HS12.out.2.1 HS12.out.2.2.1 HS12.out.2.2.2.1 HS12.out.2.2.2.2))
  have hno2 := rtO_no hq2
  have hq3' := set3_keep (x := .bool gz) (y := .slice Az nz cz) (z := .slice Az' nz' cz') hq3 (show w.heap.size + 1 + 1 + 1 ≠ w.heap.size + 1 + 1 by omega)
  have hno3 := rtO_no hq3'
  have hdr : Below w5'.heap.size w5' w5'.drew := below_drewN (Below.refl _ _) 1
  have HF : Hid (Way (set3 (set3 w6 (w.heap.size + 1 + 1) (.bool gz) (.slice Az nz cz) (.slice Az' nz' cz')) (w.heap.size + 1 + 1 + 1) (.bool gs) (.slice As ns cs) (.slice As' ns' cs')) p (prodE e a b c d) ∧
      Reg (set3 (set3 w6 (w.heap.size + 1 + 1) (.bool gz) (.slice Az nz cz) (.slice Az' nz' cz')) (w.heap.size + 1 + 1 + 1) (.bool gs) (.slice As ns cs) (.slice As' ns' cs')) w.heap.size w3.heap.size (.agg #[.bool gz, .slice Az nz cz, .slice Az' nz' cz']) (prodE e a b c d) (a * c - b * d) ∧
      Reg (set3 (set3 w6 (w.heap.size + 1 + 1) (.bool gz) (.slice Az nz cz) (.slice Az' nz' cz')) (w.heap.size + 1 + 1 + 1) (.bool gs) (.slice As ns cs) (.slice As' ns' cs')) w3.heap.size w6.heap.size (.agg #[.bool gs, .slice As ns cs, .slice As' ns' cs']) (prodE e a b c d) (a * d + b * c) ∧
      BelX p w (set3 (set3 w6 (w.heap.size + 1 + 1) (.bool gz) (.slice Az nz cz) (.slice Az' nz' cz')) (w.heap.size + 1 + 1 + 1) (.bool gs) (.slice As ns cs) (.slice As' ns' cs')) ∧ w.heap.size ≤ w3.heap.size ∧ w3.heap.size ≤ w6.heap.size) := by
    have s5 : w5'.drew.heap.size = w5'.heap.size := rfl
    have s6 := hX6.size
    have := HS1.out; have := HS2.out; have := HS3.out; have := HS4.out; have := HS5.out
    refine ⟨(hW6.set3 HSS.out.1).set3 HSS.out.2.1, ?_, ?_, ?_, by omega, by omega⟩
    · exact (((((HP5.out.2.1.below hdr).x HPD.out hX6).weak nextE_imp).set3 hno2.1 hno2.2.1).set3 hno3.1 hno3.2.1).mono (by omega) (Nat.le_refl _)
    · exact ((hR6.set3 hno2.1 hno2.2.1).set3 hno3.1 hno3.2.1).mono (by omega) (Nat.le_refl _)
    · exact (((HP5.out.2.2.2.2.trans (toX hdr p)).trans hX6).set3 (by omega)).set3 (by omega)
  clear hno2 hno3 hq3' hdr hR6 hX6 hW6 hSa hSb hSab hSba hS6 hS0
  go_wp2_with fail
  exact bodyPost_ret (v := .tuple #[.agg #[.bool gz, .slice Az nz cz, .slice Az' nz' cz'], .agg #[.bool gs, .slice As ns cs, .slice As' ns' cs']]) (by simp [results, Tryz.results244, go_sem, r0, r1, r2, q0, q1, q2]) rfl ⟨_, _, w3.heap.size, rfl, HF.out.1, HF.out.2.2.2.2.1, by have := HF.out.2.2.2.2.2; simpa using this, HF.out.2.1, HF.out.2.2.1.mono (Nat.le_refl _) (by simp), HF.out.2.2.2.1⟩
end Go.Proofs.YtcbkijeonilcjaaGreat
