/- Package rotor: Power. -/
import Derived.Test.YtcbkijeonilcjaaGreatHC18
import Derived.Deep.CutRange
namespace Go.Proofs.YtcbkijeonilcjaaGreat
open Go.RowKit

theorem blk_below {w w' : World} {b : Nat} {o : Obj} (hB : Below w.heap.size w w') (h : w.heap[b]? = some o) : w'.heap[b]? = some o := by
  rw [hB.block b (heap_lt h)]; exact h
theorem drew_keep {b : Nat} {w : World} {o : Obj} (h : w.heap[b]? = some o) : w.drew.heap[b]? = some o := h
theorem blk_below2 {w w' : World} {b : Nat} {o : Obj} (hB : Below w.drew.heap.size w.drew w') (h : w.heap[b]? = some o) : w'.heap[b]? = some o := blk_below hB (drew_keep h)
theorem imp_use {P Q : Prop} (h : P) (k : P → Q) : Q := k h
theorem heap_new {w : World} {b : Nat} (o : Obj) (h : b = w.heap.size) : (w.alloc o).heap[b]? = some o := by rw [h]; exact heap_alloc_new w o
/-- block b holds cells of type T, none of them frozen -/
def TypedAt (w : World) (b : Nat) (T : TypeId) : Prop := ∃ cur : Array Value, w.heap[b]? = some (.cells cur T (0, 0))
theorem TypedAt.of {w : World} {b : Nat} {cur : Array Value} {T : TypeId} (h : w.heap[b]? = some (.cells cur T (0, 0))) : TypedAt w b T := ⟨cur, h⟩
theorem TypedAt.new {w : World} {b : Nat} {cur : Array Value} {T : TypeId} (h : b = w.heap.size) : TypedAt (w.alloc (.cells cur T (0, 0))) b T := ⟨cur, heap_new _ h⟩
theorem TypedAt.setc {w : World} {b : Nat} {T : TypeId} (h : TypedAt w b T) (b' o : Nat) (v : Value) : TypedAt (w.setCell ⟨b', o, none⟩ v) b T := by
  obtain ⟨cur, h⟩ := h
  by_cases hb : b = b'
  · subst hb
    exact ⟨cur.setIfInBounds o v, by rw [World.setCell, Array.getElem?_modify, if_pos rfl, h]; rfl⟩
  · exact ⟨cur, by rw [Below.heap_setCell _ _ _ _ hb]; exact h⟩
theorem TypedAt.alloc {w : World} {b : Nat} {T : TypeId} (h : TypedAt w b T) (x : Obj) : TypedAt (w.alloc x) b T := by
  obtain ⟨cur, h⟩ := h
  exact ⟨cur, alloc_keep h x⟩
theorem TypedAt.below {w w' : World} {b : Nat} {T : TypeId} (h : TypedAt w b T) (hB : Below w.heap.size w w') : TypedAt w' b T := by
  obtain ⟨cur, h⟩ := h
  exact ⟨cur, blk_below hB h⟩
/-- a variable of the call's own that holds a complex fraction -/
def GBox (w : World) (b lo : Nat) (x y : Rat) : Prop := TypedAt w b 83 ∧ ∃ g A n c A' n' c' g2 A2 n2 c2 A2' n2' c2', (w.cell? ⟨b, 0, none⟩ = some (.bool g) ∧ w.cell? ⟨b, 1, none⟩ = some (.slice A n c) ∧ w.cell? ⟨b, 2, none⟩ = some (.slice A' n' c') ∧ w.cell? ⟨b, 3, none⟩ = some (.bool g2) ∧ w.cell? ⟨b, 4, none⟩ = some (.slice A2 n2 c2) ∧ w.cell? ⟨b, 5, none⟩ = some (.slice A2' n2' c2')) ∧ GtO w lo w.heap.size (.agg #[.bool g, .slice A n c, .slice A' n' c', .bool g2, .slice A2 n2 c2, .slice A2' n2' c2']) x y
theorem GBox.mk {w : World} {b lo : Nat} {x y : Rat} {g : Bool} {A : Option Addr} {n c : Nat} {A' : Option Addr} {n' c' : Nat} {g2 : Bool} {A2 : Option Addr} {n2 c2 : Nat} {A2' : Option Addr} {n2' c2' : Nat} (h0 : TypedAt w b 83) (h1 : w.cell? ⟨b, 0, none⟩ = some (.bool g) ∧ w.cell? ⟨b, 1, none⟩ = some (.slice A n c) ∧ w.cell? ⟨b, 2, none⟩ = some (.slice A' n' c') ∧ w.cell? ⟨b, 3, none⟩ = some (.bool g2) ∧ w.cell? ⟨b, 4, none⟩ = some (.slice A2 n2 c2) ∧ w.cell? ⟨b, 5, none⟩ = some (.slice A2' n2' c2'))
    (h2 : GtO w lo w.heap.size (.agg #[.bool g, .slice A n c, .slice A' n' c', .bool g2, .slice A2 n2 c2, .slice A2' n2' c2']) x y) : GBox w b lo x y :=
  ⟨h0, g, A, n, c, A', n', c', g2, A2, n2, c2, A2', n2', c2', h1, h2⟩
theorem rot_cells {w : World} {b : Nat} {f n : Int} {T : TypeId} (h : w.heap[b]? = some (.cells #[.int .i32 f, .int .i32 n] T)) : w.cell? ⟨b, 0, none⟩ = some (.int .i32 f) ∧ w.cell? ⟨b, 1, none⟩ = some (.int .i32 n) := by
  constructor <;> simp [World.cell?, h]
theorem keep_set {w : World} {b : Nat} {a : Addr} {o : Obj} {u : Value} (h : w.heap[b]? = some o) (hne : b ≠ a.block) : (w.setCell a u).heap[b]? = some o := by
  rw [Below.heap_setCell _ _ _ _ hne]; exact h
theorem set6_keep {b b' : Nat} {w : World} {o : Obj} {x y z x' y' z' : Value} (hb : w.heap[b]? = some o) (hne : b ≠ b') : (set6 w b' x y z x' y' z').heap[b]? = some o := by
  unfold set6
  rw [Below.heap_setCell _ _ _ _ hne, Below.heap_setCell _ _ _ _ hne, Below.heap_setCell _ _ _ _ hne, Below.heap_setCell _ _ _ _ hne, Below.heap_setCell _ _ _ _ hne, Below.heap_setCell _ _ _ _ hne]; exact hb
theorem set6_own {b : Nat} {w : World} {x y z x' y' z' a1 a2 a3 a4 a5 a6 : Value} {T : TypeId} (hb : w.heap[b]? = some (.cells #[a1, a2, a3, a4, a5, a6] T (0, 0))) : (set6 w b x y z x' y' z').heap[b]? = some (.cells #[x, y, z, x', y', z'] T (0, 0)) := by
  unfold set6 World.setCell
  simp [Array.getElem?_modify, hb]
theorem OwnR.set6T {w : World} {lo hi b : Nat} {v x y z x' y' z' : Value} {l : List Nat} {cur : Array Value} (h : OwnR 116 w lo hi v l) (hT : w.heap[b]? = some (.cells cur 83 (0, 0))) : OwnR 116 (Go.Proofs.YtcbkijeonilcjaaGreat.set6 w b x y z x' y' z') lo hi v l := by
  rcases h with h | ⟨b', o, n, c, rfl, h1, h2, hA⟩
  · exact .inl h
  · have hne : b ≠ b' := fun e => by
      obtain ⟨cur', h3, _⟩ := hA
      rw [← e, hT] at h3; injection h3 with h3; injection h3 with _ h3; exact absurd h3 (by decide)
    exact .inr ⟨b', o, n, c, rfl, h1, h2, (((((hA.setc hne).setc hne).setc hne).setc hne).setc hne).setc hne⟩
theorem RtO.set6T {w : World} {lo hi b : Nat} {v x y z x' y' z' : Value} {r : Rat} {cur : Array Value} (h : RtO 116 w lo hi v r) (hT : w.heap[b]? = some (.cells cur 83 (0, 0))) : RtO 116 (Go.Proofs.YtcbkijeonilcjaaGreat.set6 w b x y z x' y' z') lo hi v r := by
  obtain ⟨vn, vd, m, rfl, h1, h2, h3, h4⟩ := h
  exact ⟨vn, vd, m, rfl, h1, h2, h3.set6T hT, h4.set6T hT⟩
theorem GtO.set6T {w : World} {lo hi b : Nat} {v x y z x' y' z' : Value} {r s : Rat} {cur : Array Value} (h : GtO w lo hi v r s) (hT : w.heap[b]? = some (.cells cur 83 (0, 0))) : GtO (Go.Proofs.YtcbkijeonilcjaaGreat.set6 w b x y z x' y' z') lo hi v r s := by
  obtain ⟨vx, vy, m, rfl, h1, h2, h3, h4⟩ := h
  exact ⟨vx, vy, m, rfl, h1, h2, h3.set6T hT, h4.set6T hT⟩
theorem GtO.agg {w : World} {lo hi : Nat} {v : Value} {r s : Rat} (h : GtO w lo hi v r s) : ∃ g A n c A' n' c' g2 A2 n2 c2 A2' n2' c2', v = .agg #[.bool g, .slice A n c, .slice A' n' c', .bool g2, .slice A2 n2 c2, .slice A2' n2' c2'] := by
  obtain ⟨vx, vy, m, rfl, h1, h2, h3, h4⟩ := h
  obtain ⟨g, A, n, c, A', n', c', rfl⟩ := h3.agg
  obtain ⟨g2, A2, n2, c2, A2', n2', c2', rfl⟩ := h4.agg
  exact ⟨_, _, _, _, _, _, _, _, _, _, _, _, _, _, rfl⟩
theorem GBox.below {w w' : World} {b lo : Nat} {x y : Rat} (h : GBox w b lo x y) (hB : Below w.heap.size w w') : GBox w' b lo x y := by
  obtain ⟨h0, g, A, n, c, A', n', c', g2, A2, n2, c2, A2', n2', c2', h1, h2⟩ := h
  have hlt : b < w.heap.size := by obtain ⟨cur, h⟩ := h0; exact heap_lt h
  have hc := (bcell hB).1
  exact ⟨h0.below hB, g, A, n, c, A', n', c', g2, A2, n2, c2, A2', n2', c2', ⟨(hc _ _ hlt).trans h1.1, (hc _ _ hlt).trans h1.2.1, (hc _ _ hlt).trans h1.2.2.1, (hc _ _ hlt).trans h1.2.2.2.1, (hc _ _ hlt).trans h1.2.2.2.2.1, (hc _ _ hlt).trans h1.2.2.2.2.2⟩, (h2.below hB).mono (Nat.le_refl _) hB.size⟩

theorem typed_lt {w : World} {b : Nat} {T : TypeId} (h : TypedAt w b T) : b < w.heap.size := by obtain ⟨cur, h⟩ := h; exact heap_lt h
theorem cells_below {w w' : World} {b : Nat} {T : TypeId} {x y z x' y' z' : Value} (hB : Below w.heap.size w w') (ht : TypedAt w b T)
    (h : w.cell? ⟨b, 0, none⟩ = some x ∧ w.cell? ⟨b, 1, none⟩ = some y ∧ w.cell? ⟨b, 2, none⟩ = some z ∧ w.cell? ⟨b, 3, none⟩ = some x' ∧ w.cell? ⟨b, 4, none⟩ = some y' ∧ w.cell? ⟨b, 5, none⟩ = some z') :
    (w'.cell? ⟨b, 0, none⟩ = some x ∧ w'.cell? ⟨b, 1, none⟩ = some y ∧ w'.cell? ⟨b, 2, none⟩ = some z ∧ w'.cell? ⟨b, 3, none⟩ = some x' ∧ w'.cell? ⟨b, 4, none⟩ = some y' ∧ w'.cell? ⟨b, 5, none⟩ = some z') ∧ TypedAt w' b T := by
  have hc := (bcell hB).1
  have hlt := typed_lt ht
  exact ⟨⟨(hc _ _ hlt).trans h.1, (hc _ _ hlt).trans h.2.1, (hc _ _ hlt).trans h.2.2.1, (hc _ _ hlt).trans h.2.2.2.1, (hc _ _ hlt).trans h.2.2.2.2.1, (hc _ _ hlt).trans h.2.2.2.2.2⟩, ht.below hB⟩
theorem bel_step {a b c : World} (h : Below a.heap.size a b) (hB : Below b.heap.size b c) : Below a.heap.size a c := h.trans (hB.mono h.size)
theorem bel_alloc {a b : World} (h : Below a.heap.size a b) (o : Obj) : Below a.heap.size a (b.alloc o) := h.alloc h.size o
theorem bel_set {a b : World} {b0 o : Nat} (h : Below a.heap.size a b) (hb : a.heap.size ≤ b0) (v : Value) : Below a.heap.size a (b.setCell ⟨b0, o, none⟩ v) := h.setCell hb v
theorem bel_drew {a b : World} (h : Below a.heap.size a b) : Below a.heap.size a b.drew := below_drewN h 1
theorem fin2 {w w1 wx : World} {o : Obj} (h1 : Below w.heap.size w w1) (hr : w1.heap[w.heap.size + 1]? = some o) (hx : Below w1.heap.size w1 wx) : wx.heap[w.heap.size + 1]? = some o ∧ Below w.heap.size w wx :=
  ⟨blk_below hx hr, bel_step h1 hx⟩
theorem sz0 (w : World) : w.heap.size ≤ w.drew.heap.size := Nat.le_refl _
theorem sz1 (w : World) (o : Obj) : w.heap.size ≤ (w.alloc o).drew.heap.size := by show _ ≤ (w.alloc o).heap.size; simp
theorem sz2 (w : World) (o o' : Obj) : w.heap.size ≤ ((w.alloc o).alloc o').drew.heap.size := by show _ ≤ ((w.alloc o).alloc o').heap.size; simp; omega
/-- the lists of words are as they were -/
def Kp (w w' : World) : Prop := ∀ (b : Nat) (cur : Array Value), w.heap[b]? = some (.cells cur 116 (0, 0)) → w'.heap[b]? = w.heap[b]?
theorem Kp.refl (w : World) : Kp w w := fun _ _ _ => rfl
theorem Kp.alloc {w w' : World} (h : Kp w w') (x : Obj) : Kp w (w'.alloc x) := fun b cur hb => by
  have h1 := h b cur hb
  rw [hb] at h1 ⊢
  exact alloc_keep h1 x
theorem Kp.below {w w' w'' : World} (h : Kp w w') (hB : Below w'.heap.size w' w'') : Kp w w'' := fun b cur hb => by
  have h1 := h b cur hb
  rw [hb] at h1 ⊢
  exact blk_below hB h1
theorem Kp.trans {a b c : World} (h : Kp a b) (k : Kp b c) : Kp a c := fun i cur hb => by
  have h1 := h i cur hb
  have h2 := k i cur (h1.trans hb)
  exact h2.trans h1
theorem Kp.setc {w w' : World} {b0 o : Nat} {v : Value} {T : TypeId} (h : Kp w w') (ht : TypedAt w' b0 T) (hT : T ≠ 116) : Kp w (w'.setCell ⟨b0, o, none⟩ v) := fun b cur hb => by
  have h1 := h b cur hb
  obtain ⟨c2, ht⟩ := ht
  have hne : b ≠ b0 := fun e => by
    rw [← e, h1, hb] at ht
    injection ht with ht; injection ht with _ ht; exact hT ht.symm
  rw [Below.heap_setCell _ _ _ _ hne]; exact h1
theorem OwnR.kp {w w' : World} {lo hi : Nat} {v : Value} {l : List Nat} (h : OwnR 116 w lo hi v l) (k : Kp w w') : OwnR 116 w' lo hi v l := by
  rcases h with h | ⟨b, o, n, c, rfl, h1, h2, hA⟩
  · exact .inl h
  · refine .inr ⟨b, o, n, c, rfl, h1, h2, hA.of_block ?_⟩
    obtain ⟨cur, hc, _⟩ := hA
    exact k b cur hc
theorem RtO.kp {w w' : World} {lo hi : Nat} {v : Value} {r : Rat} (h : RtO 116 w lo hi v r) (k : Kp w w') : RtO 116 w' lo hi v r := by
  obtain ⟨vn, vd, m, rfl, h1, h2, h3, h4⟩ := h
  exact ⟨vn, vd, m, rfl, h1, h2, h3.kp k, h4.kp k⟩
theorem GtO.kp {w w' : World} {lo hi : Nat} {v : Value} {r s : Rat} (h : GtO w lo hi v r s) (k : Kp w w') : GtO w' lo hi v r s := by
  obtain ⟨vx, vy, m, rfl, h1, h2, h3, h4⟩ := h
  exact ⟨vx, vy, m, rfl, h1, h2, h3.kp k, h4.kp k⟩

theorem i64_and_one (i : Nat) (hi : i < 9223372036854775808) : bits BinOp.and IntKind.i64 (i : Int) 1 = ((i % 2 : Nat) : Int) := by
  have h : (BitVec.ofInt 64 (i : Int) &&& BitVec.ofInt 64 1).toNat = i % 2 := by
    rw [BitVec.toNat_and, BitVec.ofInt_natCast, BitVec.toNat_ofNat, Nat.mod_eq_of_lt (by omega)]
    show i &&& 1 = i % 2
    rw [Nat.and_one_is_mod]
  show IntKind.i64.wrap ((BitVec.ofInt 64 (i : Int) &&& BitVec.ofInt 64 1).toNat : Int) = _
  rw [h]
  rcases (by omega : i % 2 = 0 ∨ i % 2 = 1) with h | h <;> rw [h] <;> decide
theorem typed_free {w : World} {b : Nat} {T : TypeId} (h : TypedAt w b T) (o : Nat) : w.frozen? ⟨b, o, none⟩ = false := by
  obtain ⟨cur, h⟩ := h
  simp [World.frozen?, h]
theorem set6_sz {w : World} {b : Nat} {v1 v2 v3 v4 v5 v6 : Value} : (set6 w b v1 v2 v3 v4 v5 v6).heap.size = w.heap.size := by unfold set6; simp
theorem kp_set6 {w : World} {b' : Nat} (ht : TypedAt w b' 83) (v1 v2 v3 v4 v5 v6 : Value) : Kp w (set6 w b' v1 v2 v3 v4 v5 v6) := by
  unfold set6
  have hT : 83 ≠ 116 := by decide
  exact (((((Kp.refl w).setc ht hT).setc (ht.setc _ _ _) hT).setc ((ht.setc _ _ _).setc _ _ _) hT).setc (((ht.setc _ _ _).setc _ _ _).setc _ _ _) hT).setc ((((ht.setc _ _ _).setc _ _ _).setc _ _ _).setc _ _ _) hT |>.setc (((((ht.setc _ _ _).setc _ _ _).setc _ _ _).setc _ _ _).setc _ _ _) hT
set_option maxHeartbeats 2000000 in
theorem GBox.put {w : World} {b lo : Nat} {x y x' y' : Rat} {g : Bool} {A : Option Addr} {n c : Nat} {A' : Option Addr} {n' c' : Nat} {g2 : Bool} {A2 : Option Addr} {n2 c2 : Nat} {A2' : Option Addr} {n2' c2' : Nat} (h : GBox w b lo x y)
    (h2 : GtO w lo w.heap.size (.agg #[.bool g, .slice A n c, .slice A' n' c', .bool g2, .slice A2 n2 c2, .slice A2' n2' c2']) x' y') : GBox (set6 w b (.bool g) (.slice A n c) (.slice A' n' c') (.bool g2) (.slice A2 n2 c2) (.slice A2' n2' c2')) b lo x' y' := by
  obtain ⟨h0, _, _, _, _, _, _, _, _, _, _, _, _, _, _, ⟨q0, q1, q2, q3, q4, q5⟩, _⟩ := h
  have hk := kp_set6 h0 (.bool g) (.slice A n c) (.slice A' n' c') (.bool g2) (.slice A2 n2 c2) (.slice A2' n2' c2')
  refine ⟨?_, _, _, _, _, _, _, _, _, _, _, _, _, _, _, ?_, (h2.kp hk).mono (Nat.le_refl _) (Nat.le_of_eq set6_sz.symm)⟩
  · unfold set6
    exact (((((h0.setc _ _ _).setc _ _ _).setc _ _ _).setc _ _ _).setc _ _ _).setc _ _ _
  · unfold set6
    go_simp
theorem GBox.other {w : World} {b b' lo : Nat} {x y : Rat} {v1 v2 v3 v4 v5 v6 : Value} (h : GBox w b lo x y) (ht : TypedAt w b' 83) (hne : b ≠ b') : GBox (set6 w b' v1 v2 v3 v4 v5 v6) b lo x y := by
  obtain ⟨h0, g, A, n, c, A', n', c', g2, A2, n2, c2, A2', n2', c2', ⟨q0, q1, q2, q3, q4, q5⟩, h2⟩ := h
  have hk := kp_set6 ht v1 v2 v3 v4 v5 v6
  refine ⟨?_, g, A, n, c, A', n', c', g2, A2, n2, c2, A2', n2', c2', ?_, (h2.kp hk).mono (Nat.le_refl _) (Nat.le_of_eq set6_sz.symm)⟩
  · unfold set6
    exact (((((h0.setc _ _ _).setc _ _ _).setc _ _ _).setc _ _ _).setc _ _ _).setc _ _ _
  · have e : (set6 w b' v1 v2 v3 v4 v5 v6).heap[b]? = w.heap[b]? := by
      obtain ⟨cur, hc⟩ := h0
      rw [hc]; exact set6_keep hc hne
    have key : ∀ o, (set6 w b' v1 v2 v3 v4 v5 v6).cell? ⟨b, o, none⟩ = w.cell? ⟨b, o, none⟩ := fun o => World.cell?_of_block (a := ⟨b, o, none⟩) e
    simp only [key]
    exact ⟨q0, q1, q2, q3, q4, q5⟩

theorem cpw_add1 (z : Rat × Rat) (j k : Nat) : (cpw z (j + k)).1 = (cpw z j).1 * (cpw z k).1 - (cpw z j).2 * (cpw z k).2 ∧ (cpw z (j + k)).2 = (cpw z j).1 * (cpw z k).2 + (cpw z j).2 * (cpw z k).1 := by
  rw [cpw_add]; exact ⟨rfl, rfl⟩
set_option maxRecDepth 100000 in
set_option maxHeartbeats 4000000 in
theorem rotor_Power (f n : Int) (t : Nat) (w : World) (hr : rotOk f n) (ht : t ≤ 1024) :
    Calls Tryz.prog 118 #[.agg #[.int .i32 f, .int .i32 n], .int .i64 t] w fun e1 w' => ∃ v, e1 = .returned (.tuple #[v, .int .i64 0]) ∧ GtO w' w.heap.size w'.heap.size v (cpw (rotZ f n) t).1 (cpw (rotZ f n) t).2 ∧ Below w.heap.size w w' := by
  have HC := Lib.hid (rotor_Check f n)
  have HE : Hid (rotE f n = 0) := by show rotE f n = 0; unfold rotE; rw [if_pos hr]
  have HR := Lib.hid hr
  have hbf : Hid (f.natAbs ≤ 2147483648 ∧ n.natAbs ≤ 2147483648) := by
    have := hr.1; have := hr.2.1; have := hr.2.2.1; have := hr.2.2.2.1
    exact ⟨by omega, by omega⟩
  have e1 : ((t : Int) < -1024) = False := by simp only [eq_iff_iff, iff_false]; omega
  have e2 : ((1024 : Int) < (t : Int)) = False := by simp; omega
  obtain ⟨W0, hW0⟩ : ∃ x, (w.alloc (.cells #[.int .i32 f, .int .i32 n] 58)).alloc (.cells #[.bool false, .slice none 0 0, .slice none 0 0, .bool false, .slice none 0 0, .slice none 0 0] 83) = x := ⟨_, rfl⟩
  have hb0 : Below w.heap.size w W0 := by rw [← hW0]; exact ((Below.refl _ _).alloc (Nat.le_refl _) _).alloc (by simp) _
  have hr0 : W0.heap[w.heap.size + 1]? = some (.cells #[.bool false, .slice none 0 0, .slice none 0 0, .bool false, .slice none 0 0, .slice none 0 0] 83) := by rw [← hW0]; simpa using heap_alloc_new (w.alloc _) _
  have hk0 : W0.heap[w.heap.size]? = some (.cells #[.int .i32 f, .int .i32 n] 58) := by rw [← hW0]; exact alloc_keep (heap_alloc_new w _) _
  have hs0 : W0.heap.size = w.heap.size + 2 := by rw [← hW0]; simp
  have HB0 := Lib.hid (And.intro hb0 (And.intro hr0 (And.intro hk0 hs0)))
  have z0 : W0.cell? ⟨w.heap.size, 0, none⟩ = some (.int .i32 f) := by simp [World.cell?, hk0]
  have z1 : W0.cell? ⟨w.heap.size, 1, none⟩ = some (.int .i32 n) := by simp [World.cell?, hk0]
  clear hb0 hr0 hk0 hs0 hr
  go_enter Tryz.func118, Tryz.ntmps118
  go_wp2_with fail
  have HW0 := Lib.hid hW0
  clear hW0 z0 z1
  refine (HC.out _ hbf.out.1 hbf.out.2).mono ?_
  rintro e4 w1 ⟨rfl, hB1⟩
  rw [HE.out]
  have hr1 := (hB1.block _ (heap_lt HB0.out.2.1)).trans HB0.out.2.1
  have hk1 := (hB1.block _ (heap_lt HB0.out.2.2.1)).trans HB0.out.2.2.1
  have HB1 := Lib.hid (And.intro (HB0.out.1.trans (hB1.mono HB0.out.1.size)) (And.intro hr1 (And.intro hk1 hB1.size)))
  clear hr1 hk1 hB1
  go_wp2_with fail
  go_cut [7, 8] from 7 to 54 (fun pv hv wx => ∃ P H : Nat, pv = .pointer (some ⟨P, 0, none⟩) ∧ hv = .pointer (some ⟨H, 0, none⟩) ∧ P ≠ H ∧ w.heap.size + 2 ≤ P ∧ w.heap.size + 2 ≤ H ∧ GBox wx P (w.heap.size + 2) 1 0 ∧ GBox wx H (w.heap.size + 2) (rotRe f n) (rotIm f n) ∧ wx.heap[w.heap.size + 1]? = some (.cells #[.bool false, .slice none 0 0, .slice none 0 0, .bool false, .slice none 0 0, .slice none 0 0] 83) ∧ Below w.heap.size w wx)
  case first =>
    have hd : Below w1.heap.size w1 w1.drew := below_drewN (Below.refl _ _) 1
    have hk1 : w1.heap[w.heap.size]? = some (.cells #[.int .i32 f, .int .i32 n] 58) := HB1.out.2.2.1
    have HK1 := Lib.hid hk1
    have HKd := Lib.hid (show w1.drew.heap[w.heap.size]? = some (.cells #[.int .i32 f, .int .i32 n] 58) from hk1)
    have HNum := Lib.hid (rotor_number f n)
    have HRB : Hid (1 ≤ f ∧ f ≤ 1000 ∧ -1000 ≤ n ∧ n ≤ 1000) := ⟨HR.out.1, HR.out.2.1, HR.out.2.2.1, HR.out.2.2.2.1⟩
    have HD : Hid (w1.drew.heap.size = w1.heap.size) := rfl
    have hsz := HB1.out.2.2.2
    rw [HB0.out.2.2.2] at hsz
    have hl0 : w.heap.size < w1.heap.size := by omega
    clear hk1 hd
    have qa : True := trivial
    have qb : True := trivial
    have HK2 : True := trivial
    have HK3 : True := trivial
    go_region_held3 (fun w' => w'.cell? ⟨w.heap.size, 0, none⟩ = some (.int .i32 f) ∧ w'.cell? ⟨w.heap.size, 1, none⟩ = some (.int .i32 n))
      (exact rot_cells (by
        repeat (first
          | with_reducible exact HK3.out
          | with_reducible exact HK2.out
          | with_reducible exact HK1.out
          | with_reducible exact HKd.out
          | with_reducible refine alloc_keep ?_ _
          | with_reducible refine keep_set ?_ ?_
          | (intro hne; dsimp only at hne; omega)
          | exact alloc_keep HK3.out _
          | exact alloc_keep HK2.out _
          | exact alloc_keep HK1.out _
          | exact alloc_keep (alloc_keep HK1.out _) _)))
      (first
        | (go_at_call 203; with_reducible refine (gauss_Int 1 0 _ (by omega) (by omega) (by omega) (by omega)).mono ?_; rintro e w2 ⟨v2, rfl, hG2, hB2⟩; obtain ⟨g, A, nn, c, A', nn', c', g2, A2, n2, c2, A2', n2', c2', rfl⟩ := hG2.agg; have HK2 := Lib.hid (show w2.heap[w.heap.size]? = some (.cells #[.int .i32 f, .int .i32 n] 58) from blk_below hB2 (drew_keep (by repeat (first | with_reducible exact HK1.out | with_reducible refine alloc_keep ?_ _)))); have hz2 := hB2.size; (try simp at hz2); (have s20 : w.heap.size < w2.heap.size := by omega); (have s21 : w1.heap.size ≤ w2.heap.size := by omega); (try (refine imp_use (P := w2.heap[w1.heap.size]? = some (.cells #[.bool false, .slice none 0 0, .slice none 0 0, .bool false, .slice none 0 0, .slice none 0 0] 83 (0, 0))) ?_ ?_; (focus (refine blk_below2 hB2 ?_; (repeat (first | with_reducible exact heap_new _ rfl | (with_reducible refine heap_new _ ?_; simp; done) | with_reducible refine alloc_keep ?_ _ | with_reducible refine keep_set ?_ ?_ | (intro hne; dsimp only at hne; omega))); done)); intro qa; have tqa : TypedAt w2 (w1.heap.size) 83 := TypedAt.of qa; obtain ⟨⟨qa0, qa1, qa2⟩, qa3, qa4, qa5⟩ := cell6 qa; obtain ⟨qaf0, qaf1, qaf2, qaf3, qaf4, qaf5⟩ := free6 qa; have qal := heap_lt qa)); (try (refine imp_use (P := w2.heap[w1.heap.size + 1]? = some (.cells #[.bool false, .slice none 0 0, .slice none 0 0, .bool false, .slice none 0 0, .slice none 0 0] 83 (0, 0))) ?_ ?_; (focus (refine blk_below2 hB2 ?_; (repeat (first | with_reducible exact heap_new _ rfl | (with_reducible refine heap_new _ ?_; simp; done) | with_reducible refine alloc_keep ?_ _ | with_reducible refine keep_set ?_ ?_ | (intro hne; dsimp only at hne; omega))); done)); intro qb; have tqb : TypedAt w2 (w1.heap.size + 1) 83 := TypedAt.of qb; obtain ⟨⟨qb0, qb1, qb2⟩, qb3, qb4, qb5⟩ := cell6 qb; obtain ⟨qbf0, qbf1, qbf2, qbf3, qbf4, qbf5⟩ := free6 qb; have qbl := heap_lt qb)))
        | (go_at_call 204; with_reducible refine (HNum.out _ (HRB.out.1) (HRB.out.2.1) (HRB.out.2.2.1) (HRB.out.2.2.2)).mono ?_; rintro e w3 ⟨v3, rfl, hG3, hB3⟩; obtain ⟨g3, A3, n3, c3, A3', n3', c3', g4, A4, n4, c4, A4', n4', c4', rfl⟩ := hG3.agg; have hz3 := hB3.size; (try simp at hz3); (have s30 : w.heap.size < w3.heap.size := by omega); have HK3 := Lib.hid (show w3.heap[w.heap.size]? = some (.cells #[.int .i32 f, .int .i32 n] 58) from blk_below hB3 (by repeat (first | with_reducible exact HK2.out | with_reducible refine alloc_keep ?_ _ | with_reducible refine keep_set ?_ ?_ | (intro hne; dsimp only at hne; omega)))); (try (refine imp_use (P := w3.heap[w1.heap.size]? = some (.cells #[.bool false, .slice none 0 0, .slice none 0 0, .bool false, .slice none 0 0, .slice none 0 0] 83 (0, 0))) ?_ ?_; (focus (refine blk_below hB3 ?_; (repeat (first | with_reducible exact qa | with_reducible exact qb | with_reducible exact heap_new _ rfl | (with_reducible refine heap_new _ ?_; simp; done) | with_reducible refine alloc_keep ?_ _ | with_reducible refine keep_set ?_ ?_ | (intro hne; dsimp only at hne; omega))); done)); intro qc; have tqc : TypedAt w3 (w1.heap.size) 83 := TypedAt.of qc; obtain ⟨⟨qc0, qc1, qc2⟩, qc3, qc4, qc5⟩ := cell6 qc; obtain ⟨qcf0, qcf1, qcf2, qcf3, qcf4, qcf5⟩ := free6 qc; have qcl := heap_lt qc)); (try (refine imp_use (P := w3.heap[w1.heap.size + 1]? = some (.cells #[.bool false, .slice none 0 0, .slice none 0 0, .bool false, .slice none 0 0, .slice none 0 0] 83 (0, 0))) ?_ ?_; (focus (refine blk_below hB3 ?_; (repeat (first | with_reducible exact qa | with_reducible exact qb | with_reducible exact heap_new _ rfl | (with_reducible refine heap_new _ ?_; simp; done) | with_reducible refine alloc_keep ?_ _ | with_reducible refine keep_set ?_ ?_ | (intro hne; dsimp only at hne; omega))); done)); intro qd; have tqd : TypedAt w3 (w1.heap.size + 1) 83 := TypedAt.of qd; obtain ⟨⟨qd0, qd1, qd2⟩, qd3, qd4, qd5⟩ := cell6 qd; obtain ⟨qdf0, qdf1, qdf2, qdf3, qdf4, qdf5⟩ := free6 qd; have qdl := heap_lt qd)); (try (refine imp_use (P := w3.heap[w2.heap.size]? = some (.cells #[.bool false, .slice none 0 0, .slice none 0 0, .bool false, .slice none 0 0, .slice none 0 0] 83 (0, 0))) ?_ ?_; (focus (refine blk_below hB3 ?_; (repeat (first | with_reducible exact qa | with_reducible exact qb | with_reducible exact heap_new _ rfl | (with_reducible refine heap_new _ ?_; simp; done) | with_reducible refine alloc_keep ?_ _ | with_reducible refine keep_set ?_ ?_ | (intro hne; dsimp only at hne; omega))); done)); intro qe; have tqe : TypedAt w3 (w2.heap.size) 83 := TypedAt.of qe; obtain ⟨⟨qe0, qe1, qe2⟩, qe3, qe4, qe5⟩ := cell6 qe; obtain ⟨qef0, qef1, qef2, qef3, qef4, qef5⟩ := free6 qe; have qel := heap_lt qe)); (try (refine imp_use (P := w3.heap[w2.heap.size + 1]? = some (.cells #[.bool false, .slice none 0 0, .slice none 0 0, .bool false, .slice none 0 0, .slice none 0 0] 83 (0, 0))) ?_ ?_; (focus (refine blk_below hB3 ?_; (repeat (first | with_reducible exact qa | with_reducible exact qb | with_reducible exact heap_new _ rfl | (with_reducible refine heap_new _ ?_; simp; done) | with_reducible refine alloc_keep ?_ _ | with_reducible refine keep_set ?_ ?_ | (intro hne; dsimp only at hne; omega))); done)); intro qf; have tqf : TypedAt w3 (w2.heap.size + 1) 83 := TypedAt.of qf; obtain ⟨⟨qf0, qf1, qf2⟩, qf3, qf4, qf5⟩ := cell6 qf; obtain ⟨qff0, qff1, qff2, qff3, qff4, qff5⟩ := free6 qf; have qfl := heap_lt qf)); (try (refine imp_use (P := (w3.cell? ⟨w1.heap.size, 0, none⟩ = some (.bool g) ∧ w3.cell? ⟨w1.heap.size, 1, none⟩ = some (.slice A nn c) ∧ w3.cell? ⟨w1.heap.size, 2, none⟩ = some (.slice A' nn' c') ∧ w3.cell? ⟨w1.heap.size, 3, none⟩ = some (.bool g2) ∧ w3.cell? ⟨w1.heap.size, 4, none⟩ = some (.slice A2 n2 c2) ∧ w3.cell? ⟨w1.heap.size, 5, none⟩ = some (.slice A2' n2' c2')) ∧ TypedAt w3 (w1.heap.size) 83) ?_ ?_; (focus (refine cells_below hB3 ?_ ?_; (focus ((repeat (first | ((with_reducible refine TypedAt.new ?_); (first | with_reducible rfl | (simp only [World.size_alloc]; done))) | with_reducible refine TypedAt.setc ?_ _ _ _ | with_reducible refine TypedAt.alloc ?_ _ | with_reducible exact tqa | with_reducible exact tqb)); done)); (focus (simp; done)))); rintro ⟨⟨pc0, pc1, pc2, pc3, pc4, pc5⟩, tpc⟩; have pcl : w1.heap.size < w3.heap.size := typed_lt tpc)); (try (refine imp_use (P := (w3.cell? ⟨w1.heap.size + 1, 0, none⟩ = some (.bool g) ∧ w3.cell? ⟨w1.heap.size + 1, 1, none⟩ = some (.slice A nn c) ∧ w3.cell? ⟨w1.heap.size + 1, 2, none⟩ = some (.slice A' nn' c') ∧ w3.cell? ⟨w1.heap.size + 1, 3, none⟩ = some (.bool g2) ∧ w3.cell? ⟨w1.heap.size + 1, 4, none⟩ = some (.slice A2 n2 c2) ∧ w3.cell? ⟨w1.heap.size + 1, 5, none⟩ = some (.slice A2' n2' c2')) ∧ TypedAt w3 (w1.heap.size + 1) 83) ?_ ?_; (focus (refine cells_below hB3 ?_ ?_; (focus ((repeat (first | ((with_reducible refine TypedAt.new ?_); (first | with_reducible rfl | (simp only [World.size_alloc]; done))) | with_reducible refine TypedAt.setc ?_ _ _ _ | with_reducible refine TypedAt.alloc ?_ _ | with_reducible exact tqa | with_reducible exact tqb)); done)); (focus (simp; done)))); rintro ⟨⟨pd0, pd1, pd2, pd3, pd4, pd5⟩, tpd⟩; have pdl : w1.heap.size + 1 < w3.heap.size := typed_lt tpd)); (try (refine imp_use (P := (w3.cell? ⟨w2.heap.size, 0, none⟩ = some (.bool g) ∧ w3.cell? ⟨w2.heap.size, 1, none⟩ = some (.slice A nn c) ∧ w3.cell? ⟨w2.heap.size, 2, none⟩ = some (.slice A' nn' c') ∧ w3.cell? ⟨w2.heap.size, 3, none⟩ = some (.bool g2) ∧ w3.cell? ⟨w2.heap.size, 4, none⟩ = some (.slice A2 n2 c2) ∧ w3.cell? ⟨w2.heap.size, 5, none⟩ = some (.slice A2' n2' c2')) ∧ TypedAt w3 (w2.heap.size) 83) ?_ ?_; (focus (refine cells_below hB3 ?_ ?_; (focus ((repeat (first | ((with_reducible refine TypedAt.new ?_); (first | with_reducible rfl | (simp only [World.size_alloc]; done))) | with_reducible refine TypedAt.setc ?_ _ _ _ | with_reducible refine TypedAt.alloc ?_ _ | with_reducible exact tqa | with_reducible exact tqb)); done)); (focus (simp; done)))); rintro ⟨⟨pe0, pe1, pe2, pe3, pe4, pe5⟩, tpe⟩; have pel : w2.heap.size < w3.heap.size := typed_lt tpe)); (try (refine imp_use (P := (w3.cell? ⟨w2.heap.size + 1, 0, none⟩ = some (.bool g) ∧ w3.cell? ⟨w2.heap.size + 1, 1, none⟩ = some (.slice A nn c) ∧ w3.cell? ⟨w2.heap.size + 1, 2, none⟩ = some (.slice A' nn' c') ∧ w3.cell? ⟨w2.heap.size + 1, 3, none⟩ = some (.bool g2) ∧ w3.cell? ⟨w2.heap.size + 1, 4, none⟩ = some (.slice A2 n2 c2) ∧ w3.cell? ⟨w2.heap.size + 1, 5, none⟩ = some (.slice A2' n2' c2')) ∧ TypedAt w3 (w2.heap.size + 1) 83) ?_ ?_; (focus (refine cells_below hB3 ?_ ?_; (focus ((repeat (first | ((with_reducible refine TypedAt.new ?_); (first | with_reducible rfl | (simp only [World.size_alloc]; done))) | with_reducible refine TypedAt.setc ?_ _ _ _ | with_reducible refine TypedAt.alloc ?_ _ | with_reducible exact tqa | with_reducible exact tqb)); done)); (focus (simp; done)))); rintro ⟨⟨pf0, pf1, pf2, pf3, pf4, pf5⟩, tpf⟩; have pfl : w2.heap.size + 1 < w3.heap.size := typed_lt tpf))))
    all_goals
      go_wp2_with fail
      go_meet
      case rel =>
        clear HC HE HR hbf HNum HRB HW0 e1 e2
        refine ⟨_, _, rfl, rfl, ?_, ?_, ?_, ?_, ?_, fin2 HB1.out.1 HB1.out.2.1 ?_⟩
        · omega
        · omega
        · omega
        · refine ⟨?_, g, A, nn, c, A', nn', c', g2, A2, n2, c2, A2', n2', c2', ?_, ?_⟩
          · (repeat (first | ((with_reducible refine TypedAt.new ?_); (first | with_reducible rfl | (simp only [World.size_setCell, World.size_alloc]; done))) | with_reducible refine TypedAt.setc ?_ _ _ _ | with_reducible refine TypedAt.alloc ?_ _ | with_reducible exact tqc | with_reducible exact tqd | with_reducible exact tqe | with_reducible exact tqf | with_reducible refine TypedAt.below ?_ hB3 | with_reducible exact tqa | with_reducible exact tqb))
          · first | (go_simp; done) | (simp [go_sem, *]; done)
          · refine (hG2.kp ?_).mono (Nat.le_trans hsz (by first | exact sz0 _ | exact sz1 _ _ | exact sz2 _ _ _)) ?_
            · (repeat (first | with_reducible exact Kp.refl _ | with_reducible refine Kp.alloc ?_ _ | with_reducible refine Kp.setc (T := 83) ?_ ?_ (by decide) | with_reducible refine Kp.below ?_ hB3 | ((with_reducible refine TypedAt.new ?_); (first | with_reducible rfl | (simp only [World.size_setCell, World.size_alloc]; done))) | with_reducible refine TypedAt.setc ?_ _ _ _ | with_reducible refine TypedAt.alloc ?_ _ | with_reducible exact tqc | with_reducible exact tqd | with_reducible exact tqe | with_reducible exact tqf | with_reducible refine TypedAt.below ?_ hB3 | with_reducible exact tqa | with_reducible exact tqb))
            · first | omega | (simp only [World.size_setCell, World.size_alloc]; omega)
        · refine ⟨?_, g3, A3, n3, c3, A3', n3', c3', g4, A4, n4, c4, A4', n4', c4', ?_, ?_⟩
          · (repeat (first | ((with_reducible refine TypedAt.new ?_); (first | with_reducible rfl | (simp only [World.size_setCell, World.size_alloc]; done))) | with_reducible refine TypedAt.setc ?_ _ _ _ | with_reducible refine TypedAt.alloc ?_ _ | with_reducible exact tqc | with_reducible exact tqd | with_reducible exact tqe | with_reducible exact tqf | with_reducible refine TypedAt.below ?_ hB3 | with_reducible exact tqa | with_reducible exact tqb))
          · first | (go_simp; done) | (simp [go_sem, *]; done)
          · refine (hG3.kp ?_).mono ?_ ?_
            · (repeat (first | with_reducible exact Kp.refl _ | with_reducible refine Kp.alloc ?_ _ | with_reducible refine Kp.setc (T := 83) ?_ ?_ (by decide) | with_reducible refine Kp.below ?_ hB3 | ((with_reducible refine TypedAt.new ?_); (first | with_reducible rfl | (simp only [World.size_setCell, World.size_alloc]; done))) | with_reducible refine TypedAt.setc ?_ _ _ _ | with_reducible refine TypedAt.alloc ?_ _ | with_reducible exact tqc | with_reducible exact tqd | with_reducible exact tqe | with_reducible exact tqf | with_reducible refine TypedAt.below ?_ hB3 | with_reducible exact tqa | with_reducible exact tqb))
            · first | omega | (simp only [World.size_alloc]; omega)
            · first | omega | (simp only [World.size_setCell, World.size_alloc]; omega)
        · (repeat (first | with_reducible exact Below.refl _ _ | with_reducible refine bel_drew ?_ | with_reducible refine bel_alloc ?_ _ | with_reducible refine bel_set ?_ ?_ _ | with_reducible refine bel_step ?_ hB3 | with_reducible refine bel_step ?_ hB2 | omega))
  case rest =>
    obtain ⟨P, H, rfl, rfl, hPH, hP, hH, hGP, hGH, hres, hB⟩ := hcut
    have HNE := Lib.hid hPH
    clear hPH
    go_wp2_with fail
    go_loopw [1] (fun tv wr => ∃ T j e : Nat, tv = .int .i64 T ∧ 0 < e ∧ j + e * T = t ∧ GBox wr P (w.heap.size + 2) (cpw (rotZ f n) j).1 (cpw (rotZ f n) j).2 ∧ GBox wr H (w.heap.size + 2) (cpw (rotZ f n) e).1 (cpw (rotZ f n) e).2 ∧ wr.heap[w.heap.size + 1]? = some (.cells #[.bool false, .slice none 0 0, .slice none 0 0, .bool false, .slice none 0 0, .slice none 0 0] 83) ∧ Below w.heap.size w wr) (fun tv _ => (intOf tv).toNat)
    case atStart => exact ⟨t, 0, 1, rfl, by omega, by omega, hGP, by rw [cpw_one]; exact hGH, hres, hB⟩
    case round =>
      obtain ⟨T, j, e, rfl, hep, hT, hGP, hGH, hres, hB⟩ := hrel
      have hcb := fun (k : Nat) (hk : k ≤ 1024) => cpw_fits (rotD_bd HR.out.1 HR.out.2.1 HR.out.2.2.1 HR.out.2.2.2.1).1 (rotD_bd HR.out.1 HR.out.2.1 HR.out.2.2.1 HR.out.2.2.2.1).2 (rotZ_bdd HR.out.1 HR.out.2.1 HR.out.2.2.1 HR.out.2.2.2.1).1 (rotZ_bdd HR.out.1 HR.out.2.1 HR.out.2.2.1 HR.out.2.2.2.1).2 hk
      have hpf := fun (j k : Nat) (hk : j + k ≤ 1024) => prod_fits (rotD_bd HR.out.1 HR.out.2.1 HR.out.2.2.1 HR.out.2.2.2.1).1 (rotD_bd HR.out.1 HR.out.2.1 HR.out.2.2.1 HR.out.2.2.2.1).2 (rotZ_bdd HR.out.1 HR.out.2.1 HR.out.2.2.1 HR.out.2.2.2.1).1 (rotZ_bdd HR.out.1 HR.out.2.1 HR.out.2.2.1 HR.out.2.2.2.1).2 hk
      have HCB := Lib.hid hcb
      have HPF := Lib.hid hpf
      have HX := Lib.hid (And.intro hres hB)
      clear hcb hpf hres hB
      have tP := hGP.1
      have tH := hGH.1
      have GP := Lib.hid hGP
      have GH := Lib.hid hGH
      obtain ⟨_, g1, A1, n1, c1, A1', n1', c1', g2, A2, n2, c2, A2', n2', c2', ⟨p0, p1, p2, p3, p4, p5⟩, gP⟩ := hGP
      by_cases h0 : T = 0
      · subst h0
        obtain ⟨⟨r0, r1, r2⟩, r3, r4, r5⟩ := cell6 HX.out.1
        obtain ⟨rf0, rf1, rf2, rf3, rf4, rf5⟩ := free6 HX.out.1
        have hj : j = t := by omega
        have HG : Hid (GtO wr (w.heap.size + 2) wr.heap.size (.agg #[.bool g1, .slice A1 n1 c1, .slice A1' n1' c1', .bool g2, .slice A2 n2 c2, .slice A2' n2' c2']) (cpw (rotZ f n) t).1 (cpw (rotZ f n) t).2) := by rw [← hj]; exact gP
        clear hj gP hGH tP tH hT
        go_wp2_with fail
        exact bodyPost_ret (v := .tuple #[.agg #[.bool g1, .slice A1 n1 c1, .slice A1' n1' c1', .bool g2, .slice A2 n2 c2, .slice A2' n2' c2'], .int .i64 0]) (by simp [results, Tryz.results118, go_sem, r0, r1, r2, r3, r4, r5]) rfl ⟨_, rfl, (HG.out.kp (kp_set6 (TypedAt.of HX.out.1) _ _ _ _ _ _)).mono (by omega) (Nat.le_of_eq set6_sz.symm), below_set6 HX.out.2 (by omega) _ _ _ _ _ _⟩
      · obtain ⟨_, g3, A3, n3, c3, A3', n3', c3', g4, A4, n4, c4, A4', n4', c4', ⟨s0, s1, s2, s3, s4, s5⟩, gH⟩ := hGH
        have ne1 : (P = H) = False := by simp only [eq_iff_iff, iff_false]; exact HNE.out
        have ne2 : (H = P) = False := by simp only [eq_iff_iff, iff_false]; exact fun e => HNE.out e.symm
        have hTb : j + e ≤ t := by
          have : e * 1 ≤ e * T := Nat.mul_le_mul_left _ (by omega)
          omega
        have hTs : 1 < T → e + e ≤ t := fun h => by
          have : e * 2 ≤ e * T := Nat.mul_le_mul_left _ h
          omega
        have hTl : T ≤ t := by
          have : 1 * T ≤ e * T := Nat.mul_le_mul_right _ hep
          omega
        have hand := i64_and_one T (by omega)
        by_cases hodd : T % 2 = 1
        · rw [hodd] at hand
          have hTh : j + e + (e + e) * (T / 2) = t := by
            have hd := Nat.div_add_mod T 2
            rw [hodd] at hd
            generalize T / 2 = q at *
            rw [← hT, ← hd]
            grind
          have F := HCB.out j (by omega)
          have F2 := HCB.out e (by omega)
          have hpz := HPF.out j e (by omega)
          have HPZ := Lib.hid hpz
          have HTH := Lib.hid hTh
          clear hpz hTh hT hodd
          go_wp2_with fail
          refine (gauss_Mul wr gP.rd gH.rd F.1 F.2 F2.1 F2.2).mono ?_
          rintro e5 w5 ⟨r5, rfl, hr5, _, hB5⟩
          have hG5 := hr5 HPZ.out
          rw [HPZ.out]
          obtain ⟨g9, A9, n9, c9, A9', n9', c9', g10, A10, n10, c10, A10', n10', c10', rfl⟩ := hG5.agg
          have hh := cells_below hB5 tP ⟨p0, p1, p2, p3, p4, p5⟩
          obtain ⟨⟨x0, x1, x2, x3, x4, x5⟩, tP5⟩ := hh
          have x6 := typed_free tP5 0
          have x7 := typed_free tP5 1
          have x8 := typed_free tP5 2
          have x9 := typed_free tP5 3
          have x10 := typed_free tP5 4
          have x11 := typed_free tP5 5
          have hlt := typed_lt tP
          have hGn : GBox (set6 w5 P (.bool g9) (.slice A9 n9 c9) (.slice A9' n9' c9') (.bool g10) (.slice A10 n10 c10) (.slice A10' n10' c10')) P (w.heap.size + 2) (cpw (rotZ f n) (j + e)).1 (cpw (rotZ f n) (j + e)).2 := by
            refine GBox.put (GP.out.below hB5) ?_
            rw [(cpw_add1 _ _ _).1, (cpw_add1 _ _ _).2]
            exact hG5.mono (by omega) (Nat.le_refl _)
          have GPy := Lib.hid hGn
          have GHy := Lib.hid (show GBox (set6 w5 P (.bool g9) (.slice A9 n9 c9) (.slice A9' n9' c9') (.bool g10) (.slice A10 n10 c10) (.slice A10' n10' c10')) H (w.heap.size + 2) (cpw (rotZ f n) e).1 (cpw (rotZ f n) e).2 from (GH.out.below hB5).other tP5 (fun e => HNE.out e.symm))
          have HXy := Lib.hid (show (set6 w5 P (.bool g9) (.slice A9 n9 c9) (.slice A9' n9' c9') (.bool g10) (.slice A10 n10 c10) (.slice A10' n10' c10')).heap[w.heap.size + 1]? = some (.cells #[.bool false, .slice none 0 0, .slice none 0 0, .bool false, .slice none 0 0, .slice none 0 0] 83) ∧ Below w.heap.size w (set6 w5 P (.bool g9) (.slice A9 n9 c9) (.slice A9' n9' c9') (.bool g10) (.slice A10 n10 c10) (.slice A10' n10' c10')) from ⟨set6_keep (blk_below hB5 HX.out.1) (by omega), below_set6 (HX.out.2.trans (hB5.mono HX.out.2.size)) (by omega) _ _ _ _ _ _⟩)
          clear hGn hr5 hG5 hB5 gP gH
          go_upto_region 13 with fail
          change Code.wp _ _ _ _ (set6 w5 P (.bool g9) (.slice A9 n9 c9) (.slice A9' n9' c9') (.bool g10) (.slice A10 n10 c10) (.slice A10' n10' c10'))
          generalize set6 w5 P (.bool g9) (.slice A9 n9 c9) (.slice A9' n9' c9') (.bool g10) (.slice A10 n10 c10) (.slice A10' n10' c10') = wy at *
          have hTh := HTH.out
          clear x0 x1 x2 x3 x4 x5 x6 x7 x8 x9 x10 x11 p0 p1 p2 p3 p4 p5 s0 s1 s2 s3 s4 s5 hlt tP5
          by_cases h1 : 1 < T
          · have tHy := GHy.out.1
            have e4 : ((1 : Int) < (T : Int)) = True := by simp only [eq_iff_iff, iff_true]; omega
            obtain ⟨_, g7, A7, n7, c7, A7', n7', c7', g8, A8, n8, c8, A8', n8', c8', ⟨y0, y1, y2, y3, y4, y5⟩, gHy⟩ := GHy.out
            have F := HCB.out e (by omega)
            have hpz := HPF.out e e (by omega)
            have HPZ := Lib.hid hpz
            have h1x := hTs h1
            clear hpz
            go_wp2_with fail
            refine (gauss_Mul wy gHy.rd gHy.rd F.1 F.2 F.1 F.2).mono ?_
            rintro e5 w5 ⟨r5, rfl, hr5, _, hB5⟩
            have hG5 := hr5 HPZ.out
            rw [HPZ.out]
            obtain ⟨g9, A9, n9, c9, A9', n9', c9', g10, A10, n10, c10, A10', n10', c10', rfl⟩ := hG5.agg
            have hh := cells_below hB5 tHy ⟨y0, y1, y2, y3, y4, y5⟩
            obtain ⟨⟨x0, x1, x2, x3, x4, x5⟩, tH5⟩ := hh
            have x6 := typed_free tH5 0
            have x7 := typed_free tH5 1
            have x8 := typed_free tH5 2
            have x9 := typed_free tH5 3
            have x10 := typed_free tH5 4
            have x11 := typed_free tH5 5
            have hlt := typed_lt tHy
            have HZ := Lib.hid (And.intro hG5 (And.intro hB5 tH5))
            clear hG5 hr5 hB5 gHy
            go_wp2_with fail
            go_roundw
            case rel =>
              obtain ⟨hG5, hB5, tH5⟩ := HZ.out
              refine ⟨T / 2, j + e, e + e, by go_num, by omega, hTh, (GPy.out.below hB5).other tH5 HNE.out, GBox.put (GHy.out.below hB5) ?_, set6_keep (blk_below hB5 HXy.out.1) (by omega), below_set6 (HXy.out.2.trans (hB5.mono HXy.out.2.size)) (by omega) _ _ _ _ _ _⟩
              rw [(cpw_add1 _ _ _).1, (cpw_add1 _ _ _).2]
              exact hG5.mono (by omega) (Nat.le_refl _)
            case measure => simp [intOf]; omega
          · have e4 : ((1 : Int) < (T : Int)) = False := by simp only [eq_iff_iff, iff_false]; omega
            go_wp2_with fail
            go_roundw
            case rel =>
              have hq : T / 2 = 0 := by omega
              have hT2 := hTh
              rw [hq, Nat.mul_zero, Nat.add_zero] at hT2
              exact ⟨T / 2, j + e, e, by go_num, hep, by rw [hq]; omega, GPy.out, GHy.out, HXy.out.1, HXy.out.2⟩
            case measure => simp [intOf]; omega
        · have hodd : T % 2 = 0 := by omega
          rw [hodd] at hand
          have hTh : j + (e + e) * (T / 2) = t := by
            have hd := Nat.div_add_mod T 2
            rw [hodd] at hd
            generalize T / 2 = q at *
            rw [← hT, ← hd]
            grind
          have GPy := GP
          have GHy := GH
          have HXy := HX
          clear hT hodd gP gH p0 p1 p2 p3 p4 p5 s0 s1 s2 s3 s4 s5
          have h1 : 1 < T := by omega
          have tHy := GHy.out.1
          have e4 : ((1 : Int) < (T : Int)) = True := by simp only [eq_iff_iff, iff_true]; omega
          obtain ⟨_, g7, A7, n7, c7, A7', n7', c7', g8, A8, n8, c8, A8', n8', c8', ⟨y0, y1, y2, y3, y4, y5⟩, gHy⟩ := GHy.out
          have F := HCB.out e (by omega)
          have hpz := HPF.out e e (by omega)
          have HPZ := Lib.hid hpz
          have h1x := hTs h1
          clear hpz
          go_wp2_with fail
          refine (gauss_Mul wr gHy.rd gHy.rd F.1 F.2 F.1 F.2).mono ?_
          rintro e5 w5 ⟨r5, rfl, hr5, _, hB5⟩
          have hG5 := hr5 HPZ.out
          rw [HPZ.out]
          obtain ⟨g9, A9, n9, c9, A9', n9', c9', g10, A10, n10, c10, A10', n10', c10', rfl⟩ := hG5.agg
          have hh := cells_below hB5 tHy ⟨y0, y1, y2, y3, y4, y5⟩
          obtain ⟨⟨x0, x1, x2, x3, x4, x5⟩, tH5⟩ := hh
          have x6 := typed_free tH5 0
          have x7 := typed_free tH5 1
          have x8 := typed_free tH5 2
          have x9 := typed_free tH5 3
          have x10 := typed_free tH5 4
          have x11 := typed_free tH5 5
          have hlt := typed_lt tHy
          have HZ := Lib.hid (And.intro hG5 (And.intro hB5 tH5))
          clear hG5 hr5 hB5 gHy
          go_wp2_with fail
          go_roundw
          case rel =>
            obtain ⟨hG5, hB5, tH5⟩ := HZ.out
            refine ⟨T / 2, j, e + e, by go_num, by omega, hTh, (GPy.out.below hB5).other tH5 HNE.out, GBox.put (GHy.out.below hB5) ?_, set6_keep (blk_below hB5 HXy.out.1) (by omega), below_set6 (HXy.out.2.trans (hB5.mono HXy.out.2.size)) (by omega) _ _ _ _ _ _⟩
            rw [(cpw_add1 _ _ _).1, (cpw_add1 _ _ _).2]
            exact hG5.mono (by omega) (Nat.le_refl _)
          case measure => simp [intOf]; omega
end Go.Proofs.YtcbkijeonilcjaaGreat
