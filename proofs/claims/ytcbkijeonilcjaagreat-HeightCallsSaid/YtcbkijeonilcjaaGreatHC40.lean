/- height.begun: what is the same at each tick. -/
import Derived.Test.YtcbkijeonilcjaaGreatHC11
import Derived.Test.YtcbkijeonilcjaaGreatHC39
import Derived.Maps.AppendAt
namespace Go.Proofs.YtcbkijeonilcjaaGreat
open Go.RowKit Ieee

theorem run_store_float (P : Program) (w : World) (a : Addr) (m : Mode) (k : FloatKind) (n : Nat) : (store a (.float k n) m).run P w = stored P w a (.float k n) m := run_store P w a _ m rfl
attribute [local go_sem] run_store_float
/-- the numbers' floats, as they lie -/
def zCell (T : Tn) : Value := .complex .f64 (flW T.re) (flW T.im)
structure ZsR (w : World) (Z : Option Addr) (n c : Nat) (ts : List Tn) : Prop where
  len : ts.length = n
  cap : n ≤ c ∧ c ≤ maxLen
  cell : 0 < n → ∃ b o, Z = some ⟨b, o, none⟩ ∧ ∀ j (h : j < ts.length), w.cell? ⟨b, o + j, none⟩ = some (zCell ts[j])
theorem ZsR.below {w w1 : World} {A : Option Addr} {n c : Nat} {ts : List Tn} (h : ZsR w A n c ts) (hb : Below w.heap.size w w1) : ZsR w1 A n c ts :=
  ⟨h.len, h.cap, fun hn => by
    obtain ⟨b, o, e, hc⟩ := h.cell hn
    exact ⟨b, o, e, fun j hj => by rw [hb.cell (World.block_lt_of_cell? w _ (hc j hj))]; exact hc j hj⟩⟩
theorem ZsR.of_row {w : World} {base n : Nat} {v : Value} {ts : List Tn} (h : w.ownsRow base 36 1 v n (ts.map zCell)) : ∃ Z c, v = .slice Z n c ∧ ZsR w Z n c ts := by
  have hl : ts.length = n := by have := h.1; simpa using this
  rcases h.2 with ⟨rfl, rfl⟩ | ⟨g, cap, cur, rfl, hg, hh, h1, h2, h3, h4⟩
  · exact ⟨none, 0, rfl, hl, ⟨Nat.le_refl _, by unfold maxLen; omega⟩, fun h => absurd h (by omega)⟩
  · refine ⟨_, cap, rfl, hl, ⟨h1, h2⟩, fun _ => ⟨g, 0, rfl, fun j hj => ?_⟩⟩
    have h5 : (ts.map zCell)[j]? = some (zCell ts[j]) := by simp [hj]
    rw [← h4, List.getElem?_take, if_pos (by omega)] at h5
    rw [World.cell?, Nat.zero_add]
    simp only [hh]
    rw [← h5]; simp
theorem row_keep {w w' : World} {base : Nat} {e : TypeId} {size : Nat} {v : Value} {n : Nat} {xs : List Value} (h : w.ownsRow base e size v n xs) (hk : ∀ g, v.ownBlock = some g → w'.heap[g]? = w.heap[g]?) : w'.ownsRow base e size v n xs := by
  refine ⟨h.1, ?_⟩
  rcases h.2 with h0 | ⟨g, cap, cur, rfl, hg, hh, h1⟩
  · exact .inl h0
  · exact .inr ⟨g, cap, cur, rfl, hg, by rw [hk g rfl]; exact hh, h1⟩
theorem row_base {w : World} {base : Nat} {e : TypeId} {size : Nat} {v : Value} {n : Nat} {xs : List Value} (h : w.ownsRow base e size v n xs) : ∀ g, v.ownBlock = some g → base ≤ g ∧ g < w.heap.size := by
  intro g hg
  rcases h.2 with ⟨rfl, _⟩ | ⟨g', cap, cur, rfl, hb, hh, h1⟩
  · cases hg
  · injection hg with hg
    subst hg
    exact ⟨hb, (Array.getElem?_eq_some_iff.1 hh).1⟩
theorem row_shape {w : World} {base : Nat} {e : TypeId} {size : Nat} {v : Value} {n : Nat} {xs : List Value} (h : w.ownsRow base e size v n xs) : ∃ Z c, v = .slice Z n c := by
  rcases h.2 with ⟨rfl, rfl⟩ | ⟨g, cap, cur, rfl, _⟩
  · exact ⟨none, 0, rfl⟩
  · exact ⟨_, _, rfl⟩
theorem cell8 {w : World} {b : Nat} {a0 a1 a2 a3 a4 a5 a6 a7 : Value} {T : TypeId} (h : w.heap[b]? = some (.cells #[a0, a1, a2, a3, a4, a5, a6, a7] T)) :
    w.cell? ⟨b, 0, none⟩ = some a0 ∧ w.cell? ⟨b, 1, none⟩ = some a1 ∧ w.cell? ⟨b, 2, none⟩ = some a2 ∧ w.cell? ⟨b, 3, none⟩ = some a3 ∧ w.cell? ⟨b, 4, none⟩ = some a4 ∧ w.cell? ⟨b, 5, none⟩ = some a5 ∧ w.cell? ⟨b, 6, none⟩ = some a6 ∧ w.cell? ⟨b, 7, none⟩ = some a7 := by
  refine ⟨?_, ?_, ?_, ?_, ?_, ?_, ?_, ?_⟩ <;> simp [World.cell?, h]
theorem free8 {w : World} {b : Nat} {cs : Array Value} {T : TypeId} (h : w.heap[b]? = some (.cells cs T)) (o : Nat) : w.frozen? ⟨b, o, none⟩ = false := by simp [World.frozen?, h]
/-- the box of the work -/
def wkO (pc : List Value) (m : Nat) (zv : Value) (bd : Nat) : Obj := .cells (pc ++ [.float .f64 m, zv, .float .f64 bd]).toArray 95 (0, 0)
structure WkR (w : World) (b : Nat) (P : Pn) : Prop where
  box : ∃ nm g A n c A' n' c' B k d Z cz, w.heap[b]? = some (.cells #[.string nm, .bool g, .slice A n c, .slice A' n' c', .slice B k d, .float .f64 (flW P.mean), .slice Z k cz, .float .f64 P.bnd] 95 (0, 0)) ∧ TnS w B k d P.ts ∧ ZsR w Z k cz P.ts
theorem WkR.below {w w1 : World} {b : Nat} {P : Pn} (h : WkR w b P) (hb : Below w.heap.size w w1) : WkR w1 b P := by
  obtain ⟨nm, g, A, n, c, A', n', c', B, k, d, Z, cz, h1, h2, h3⟩ := h.box
  exact ⟨nm, g, A, n, c, A', n', c', B, k, d, Z, cz, blk_below hb h1, h2.below hb, h3.below hb⟩
/-- the loop's world: the port's box, the work's -/
def BegW (w wr : World) (x0 x1 x2 x3 : Value) (B : Option Addr) (k d m : Nat) (ts : List Tn) (i : Nat) : Prop :=
  Below w.heap.size w wr ∧ wr.heap[w.heap.size]? = some (.cells #[x0, x1, x2, x3, .slice B k d] 27 (0, 0)) ∧
  ∃ zv, wr.heap[w.heap.size + 1]? = some (.cells #[x0, x1, x2, x3, .slice B k d, .float .f64 m, zv, .float .f64 0] 95 (0, 0)) ∧ wr.ownsRow (w.heap.size + 2) 36 1 zv i ((ts.take i).map zCell)
theorem BegW.step {w wr w' : World} {x0 x1 x2 x3 : Value} {B : Option Addr} {k d m i : Nat} {ts : List Tn} (h : BegW w wr x0 x1 x2 x3 B k d m ts i) (hb : Below wr.heap.size wr w') : BegW w w' x0 x1 x2 x3 B k d m ts i := by
  obtain ⟨h1, h2, zv, h4, h5⟩ := h
  exact ⟨bel_step h1 hb, blk_below hb h2, zv, blk_below hb h4, row_keep h5 fun g hg => hb.block g (row_base h5 g hg).2⟩
theorem beg_push {w w5 w6 : World} {x0 x1 x2 x3 zv v' : Value} {B : Option Addr} {k d m i : Nat} {ts : List Tn} {xs : List Value} (h : Below w.heap.size w w5) (hp : w5.heap[w.heap.size]? = some (.cells #[x0, x1, x2, x3, .slice B k d] 27 (0, 0)))
    (hb : w5.heap[w.heap.size + 1]? = some (.cells #[x0, x1, x2, x3, .slice B k d, .float .f64 m, zv, .float .f64 0] 95 (0, 0))) (hz : w5.ownsRow (w.heap.size + 2) 36 1 zv i xs)
    (ho : w6.ownsRow (w.heap.size + 2) 36 1 v' (i + 1) ((ts.take (i + 1)).map zCell)) (hg : w5.grownBy w6 zv.ownBlock) :
    BegW w (w6.setCell ⟨w.heap.size + 1, 6, none⟩ v') x0 x1 x2 x3 B k d m ts (i + 1) ∧ w6.heap[w.heap.size + 1]? = some (.cells #[x0, x1, x2, x3, .slice B k d, .float .f64 m, zv, .float .f64 0] 95 (0, 0)) := by
  have hl := heap_lt hb
  have hb6 : Below w.heap.size w w6 := h.grown hg (by omega) (fun g hg => by have := (row_base hz g hg).1; omega)
  have k1 : w6.heap[w.heap.size + 1]? = some (.cells #[x0, x1, x2, x3, .slice B k d, .float .f64 m, zv, .float .f64 0] 95 (0, 0)) := by
    rw [hg.block _ hl (fun e => by have := (row_base hz _ e.symm).1; omega)]; exact hb
  have k0 : w6.heap[w.heap.size]? = some (.cells #[x0, x1, x2, x3, .slice B k d] 27 (0, 0)) := by
    rw [hg.block _ (by omega) (fun e => by have := (row_base hz _ e.symm).1; omega)]; exact hp
  refine ⟨⟨hb6.setCell (p := ⟨w.heap.size + 1, 6, none⟩) (Nat.le_succ _) _, ?_, v', ?_, ?_⟩, k1⟩
  · rw [Below.heap_setCell _ _ _ _ (by simp)]; exact k0
  · rw [World.setCell, Array.getElem?_modify, if_pos rfl, k1]; rfl
  · refine row_keep ho fun g hg => ?_
    exact Below.heap_setCell _ _ _ _ (by have := (row_base ho g hg).1; simp; omega)
theorem take_map_succ (ts : List Tn) (i : Nat) (h : i < ts.length) : (ts.take (i + 1)).map zCell = (ts.take i).map zCell ++ [zCell ts[i]] := by
  rw [List.take_succ_eq_append_getElem h, List.map_append]; rfl
theorem add_off (b o j : Nat) : (⟨b, o, none⟩ : Addr).add j = ⟨b, o + j, none⟩ := by unfold Addr.add; split <;> simp_all
theorem one_new {w : World} {b : Nat} {x : Value} (h : w.cell? ⟨b, 0, none⟩ = some x) : ∀ (j : Nat) (u : Value), [x][j]? = some u → w.cell? ((⟨b, 0, none⟩ : Addr).add j) = some u := by
  intro j u hu
  rw [add_off]
  match j, hu with
  | 0, hu =>
    injection hu with hu
    subst hu
    exact h
theorem one_cell {x : Value} (h : x.oneCell' = true) : ∀ u ∈ [x], u.oneCell' = true := by
  intro u hu
  rcases List.mem_singleton.1 hu with rfl
  exact h
theorem math_AbsW {x : Nat} {k : Int} (w : World) (hx : Fn x k) :
    Calls Tryz.prog 113 #[.float .f64 x] w fun e w' => e = .returned (.float .f64 (abW x)) ∧ w' = w := math_Abs x w (fn_lt hx)
theorem cnt_float (k : Nat) : floatOfInt .f64 ((k : Int) + 4) = cntW k := by
  show double.write (.number (decide (((k : Int) + 4) < 0)) ((k : Int) + 4).natAbs 0) = _
  rw [decide_eq_false (by omega), show ((k : Int) + 4).natAbs = k + 4 from by omega]
  rfl
theorem wk_last {w wr : World} {nm : ByteArray} {g : Bool} {A A' B : Option Addr} {n c n' c' k d m i : Nat} {P : Pn} (h : BegW w wr (.string nm) (.bool g) (.slice A n c) (.slice A' n' c') B k d m P.ts i) (hi : i = k) (hl : P.ts.length = k) (hm : flW P.mean = m) (ht : TnS w B k d P.ts) :
    WkR (wr.setCell ⟨w.heap.size + 1, 7, none⟩ (.float .f64 P.bnd)) (w.heap.size + 1) P ∧ Below w.heap.size w (wr.setCell ⟨w.heap.size + 1, 7, none⟩ (.float .f64 P.bnd)) := by
  obtain ⟨h1, h2, zv, h3, h4⟩ := h
  have hb : Below w.heap.size w (wr.setCell ⟨w.heap.size + 1, 7, none⟩ (.float .f64 P.bnd)) := h1.setCell (p := ⟨w.heap.size + 1, 7, none⟩) (Nat.le_succ _) _
  subst hi hm
  have h5 : (wr.setCell ⟨w.heap.size + 1, 7, none⟩ (.float .f64 P.bnd)).ownsRow (w.heap.size + 2) 36 1 zv i (P.ts.map zCell) := by
    rw [← hl, List.take_length, hl] at h4
    refine row_keep h4 fun g hg => ?_
    exact Below.heap_setCell _ _ _ _ (by have := (row_base h4 g hg).1; simp; omega)
  obtain ⟨Z, cz, rfl, h6⟩ := ZsR.of_row h5
  refine ⟨⟨⟨nm, g, A, n, c, A', n', c', B, i, d, Z, cz, ?_, ht.below hb, h6⟩⟩, hb⟩
  rw [World.setCell, Array.getElem?_modify, if_pos rfl, h3]; rfl
theorem zinfo0 : (Tryz.prog.info? 36).map (fun i => (i.zero, i.size, i.bytes)) = some (some (.complex .f64 0 0), 1, 16) := by kernel_rfl
theorem zinfo : ∃ i : TypeInfo, Tryz.prog.info? 36 = some i ∧ i.zero = some (.complex .f64 0 0) ∧ i.size = 1 ∧ i.bytes = 16 := by
  have h := zinfo0
  cases hi : Tryz.prog.info? 36 with
  | none => rw [hi] at h; cases h
  | some i =>
    rw [hi] at h
    simp only [Option.map_some, Option.some.injEq, Prod.mk.injEq] at h
    exact ⟨i, rfl, h.1, h.2.1, h.2.2⟩
set_option maxRecDepth 100000 in
set_option maxHeartbeats 4000000 in
theorem height_begun {v : Value} {P : Pn} (w : World) (h : PnR w v P) (hP : P.ok) :
    Calls Tryz.prog 50 #[v] w fun e w' => ∃ b, e = .returned (.pointer (some ⟨b, 0, none⟩)) ∧ WkR w' b P ∧ Below w.heap.size w w' := by
  obtain ⟨nm, A, c, A', c', B, k, d, rfl, h1, h2, h3⟩ := h
  obtain ⟨i0, hi0, hz0, hz1, hz2⟩ := zinfo
  have hRM : ∀ w', Below w.heap.size w w' → RtR w' (.agg #[.bool (rneg P.mean), .slice A (wl (rnum P.mean)) c, .slice A' (wl P.mean.den) c']) P.mean := fun w' hb => ⟨_, _, _, _, rfl, h1.below hb, h2.below hb⟩
  have HM := Lib.hid hRM
  have HP := Lib.hid hP
  have HBD := Lib.hid hP.bd
  have HL := Lib.hid h3.len
  have hk24 := h3.big.1
  have HT := Lib.hid h3
  generalize rneg P.mean = g at *
  generalize wl (rnum P.mean) = n1 at *
  generalize wl P.mean.den = n2 at *
  obtain ⟨W0, hW0⟩ : ∃ x, (w.alloc (.cells #[.string nm, .bool g, .slice A n1 c, .slice A' n2 c', .slice B k d] 27)).alloc (.cells #[.string nm, .bool g, .slice A n1 c, .slice A' n2 c', .slice B k d, .float .f64 0, .slice none 0 0, .float .f64 0] 95) = x := ⟨_, rfl⟩
  have hb0 : Below w.heap.size w W0 := by rw [← hW0]; exact ((Below.refl _ _).alloc (Nat.le_refl _) _).alloc (by simp) _
  have hk0 : W0.heap[w.heap.size]? = some (.cells #[.string nm, .bool g, .slice A n1 c, .slice A' n2 c', .slice B k d] 27) := by rw [← hW0]; exact alloc_keep (heap_alloc_new w _) _
  have hk1 : W0.heap[w.heap.size + 1]? = some (.cells #[.string nm, .bool g, .slice A n1 c, .slice A' n2 c', .slice B k d, .float .f64 0, .slice none 0 0, .float .f64 0] 95) := by rw [← hW0]; exact heap_new _ (by simp)
  have HA := Lib.hid (And.intro hb0 (And.intro hk0 hk1))
  obtain ⟨z0, z1, z2, z3, z4⟩ := cell5 hk0
  have hl0 : w.heap.size + 1 < W0.heap.size := heap_lt hk1
  have hcnt := cnt_float k
  have HCN := Lib.hid hcnt
  clear hb0 hk0 hk1 h1 h2 h3 hRM hP hcnt
  go_enter Tryz.func50, Tryz.ntmps50
  go_wp2_with fail
  have HW0 := Lib.hid hW0
  clear hW0
  refine (real_NearestW W0 (HM.out W0 HA.out.1) HP.out.1 HP.out.2.1).mono ?_
  rintro e w1 ⟨rfl, hB1⟩
  obtain ⟨m, hm⟩ : ∃ m, flW P.mean = m := ⟨_, rfl⟩
  rw [hm]
  have HMW := Lib.hid hm
  clear hm
  have hj1 := blk_below hB1 HA.out.2.2
  obtain ⟨W2, hW2⟩ : ∃ x, w1.setCell ⟨w.heap.size + 1, 5, none⟩ (.float .f64 m) = x := ⟨_, rfl⟩
  have hb2 : Below (w.heap.size + 1) w1 W2 := by rw [← hW2]; exact (Below.refl _ _).setCell (p := ⟨w.heap.size + 1, 5, none⟩) (Nat.le_refl _) _
  have hW2k : W2.heap[w.heap.size + 1]? = some (.cells #[.string nm, .bool g, .slice A n1 c, .slice A' n2 c', .slice B k d, .float .f64 m, .slice none 0 0, .float .f64 0] 95 (0, 0)) := by
    rw [← hW2, World.setCell, Array.getElem?_modify, if_pos rfl, hj1]; rfl
  have hW2b : BegW w W2 (.string nm) (.bool g) (.slice A n1 c) (.slice A' n2 c') B k d m P.ts 0 := by
    refine ⟨(bel_step HA.out.1 hB1).trans (hb2.mono (Nat.le_succ _)), ?_, .slice none 0 0, hW2k, World.ownsRow_nil _ _ _ _⟩
    rw [hb2.block _ (Nat.lt_succ_self _)]; exact blk_below hB1 HA.out.2.1
  have HB2 := Lib.hid hW2b
  have hl1 : w.heap.size + 1 < w1.heap.size := heap_lt hj1
  have hj0 := blk_below hB1 HA.out.2.1
  clear z0 z1 z2 z3 z4
  obtain ⟨z0, z1, z2, z3, z4⟩ := cell5 hj0
  obtain ⟨y0, y1, y2, y3, y4, y5, y6, y7⟩ := cell8 hj1
  have f5 := free8 hj1 5
  clear hb2 hW2k hW2b hB1 HA hj0 hj1
  go_upto_region 3 with fail
  have HW2 := Lib.hid hW2
  clear hW2 z0 z1 z2 z3 z4 y0 y1 y2 y3 y4 y5 y6 y7 f5
  obtain ⟨z0, z1, z2, z3, z4⟩ := cell5 HB2.out.2.1
  go_wp2_with fail
  clear z0 z1 z2 z3 z4
  go_loopg [4, 25] k (fun g' sv iv wr => ∃ i : Nat, iv = .int .i64 i ∧ i + g' = k ∧ sv = .float .f64 (szW (P.ts.take i)) ∧ BegW w wr (.string nm) (.bool g) (.slice A n1 c) (.slice A' n2 c') B k d m P.ts i)
  case atStart => exact ⟨0, rfl, by omega, rfl, HB2.out⟩
  case round =>
    obtain ⟨i, rfl, hi, rfl, hN⟩ := hrel
    have KK := Lib.hid hN
    clear hN HB2
    by_cases hin : i < k
    · obtain ⟨b, o, rfl, hcel⟩ := (HT.out.below KK.out.1).cell (by omega)
      have hil : i < P.ts.length := by rw [HL.out]; exact hin
      obtain ⟨tnm, A1, c1, A1', c1', A2, c2, A2', c2', ⟨q0, q1, q2, q3, q4, q5, q6, q7, q8⟩, hR1⟩ := (hcel i hil).agg
      have HTO := Lib.hid (HP.out.2.2.2 _ (List.getElem_mem hil))
      have HST := Lib.hid (szW_step HP.out.2.2.2 i hil (by rw [HL.out]; omega))
      have HMP := Lib.hid (take_map_succ P.ts i hil)
      have HR1 := Lib.hid hR1
      clear hR1 hcel
      generalize hT : P.ts[i] = T at *
      clear hT
      obtain ⟨W3, hW3⟩ : ∃ x, wr.alloc (.cells #[.string tnm, .int .i32 T.far, .int .i32 T.near, .bool (rneg T.re), .slice A1 (wl (rnum T.re)) c1, .slice A1' (wl T.re.den) c1', .bool (rneg T.im), .slice A2 (wl (rnum T.im)) c2, .slice A2' (wl T.im.den) c2'] 85) = x := ⟨_, rfl⟩
      have hb3 : Below wr.heap.size wr W3 := by rw [← hW3]; exact (Below.refl _ _).alloc (Nat.le_refl _) _
      have hq3 : W3.heap[wr.heap.size]? = some (.cells #[.string tnm, .int .i32 T.far, .int .i32 T.near, .bool (rneg T.re), .slice A1 (wl (rnum T.re)) c1, .slice A1' (wl T.re.den) c1', .bool (rneg T.im), .slice A2 (wl (rnum T.im)) c2, .slice A2' (wl T.im.den) c2'] 85) := by rw [← hW3]; exact heap_alloc_new wr _
      have H3 := Lib.hid (And.intro (KK.out.step hb3) (HR1.out W3 hb3))
      go_upto_region 7 with fail
      have HW3 := Lib.hid hW3
      clear hW3 q0 q1 q2 q3 q4 q5 q6 q7 q8
      obtain ⟨q0, q1, q2, q3, q4, q5, q6, q7, q8⟩ := cell9 hq3
      clear hb3 hq3
      go_wp2_with fail
      refine (parts_NearestW W3 H3.out.2 HTO.out.2.1.1 HTO.out.2.1.2 HTO.out.2.2.1 HTO.out.2.2.2).mono ?_
      rintro e w4 ⟨rfl, hB4⟩
      obtain ⟨a1, a2, zv, a3, a4⟩ := H3.out.1.step hB4
      obtain ⟨Z, cz, rfl⟩ := row_shape a4
      obtain ⟨W5, hW5⟩ : ∃ x, w4.alloc (.cells #[.complex .f64 (flW T.re) (flW T.im)] 36) = x := ⟨_, rfl⟩
      have hb5 : Below w4.heap.size w4 W5 := by rw [← hW5]; exact (Below.refl _ _).alloc (Nat.le_refl _) _
      have hc5 : W5.cell? ⟨w4.heap.size, 0, none⟩ = some (.complex .f64 (flW T.re) (flW T.im)) := by
        have h9 := heap_alloc_new w4 (.cells #[.complex .f64 (flW T.re) (flW T.im)] 36)
        rw [hW5] at h9
        simp [World.cell?, h9]
      have H5 := Lib.hid (And.intro (bel_step a1 hb5) (And.intro (blk_below hb5 a2) (And.intro (blk_below hb5 a3) (And.intro (row_keep a4 fun g hg => hb5.block g (row_base a4 g hg).2) hc5))))
      obtain ⟨y0, y1, y2, y3, y4, y5, y6, y7⟩ := cell8 a3
      have hl5 : w.heap.size + 2 ≤ W5.heap.size := heap_lt H5.out.2.2.1
      clear a1 a2 a3 a4 hb5 hc5 q0 q1 q2 q3 q4 q5 q6 q7 q8 hB4
      go_upto_region 8 with fail
      go_wp2_with (at_builtin; refine wpList_append_own_at _ rfl (.tmp 39) (.tmp 41) 93 rfl (w.heap.size + 2) 36 i0 _ 1 16 Tryz.underlying93 hi0 hz0 hz1 hz2 rfl (by decide) (.slice Z i cz) i _ rfl H5.out.2.2.2.1 ⟨w4.heap.size, 0, none⟩ 1 1 [.complex .f64 (flW T.re) (flW T.im)] rfl rfl (one_new H5.out.2.2.2.2) (one_cell rfl) (by unfold maxLen; omega) (by omega) hl5 ?_; intro v6 w6 hown hgr _ _; obtain ⟨Z6, cz6, rfl⟩ := row_shape hown; rw [show [Value.complex .f64 (flW T.re) (flW T.im)] = [zCell T] from rfl, ← HMP.out] at hown; (have hpu := beg_push H5.out.1 H5.out.2.1 H5.out.2.2.1 H5.out.2.2.2.1 hown hgr); have HW5 := Lib.hid hW5; clear hW5 y0 y1 y2 y3 y4 y5 y6 y7; obtain ⟨y0, y1, y2, y3, y4, y5, y6, y7⟩ := cell8 hpu.2; have f6 := free8 hpu.2 6; have H6 := Lib.hid hpu.1; have hlt6 := heap_lt hpu.2; clear hpu hown hgr)
      refine (math_AbsW _ HTO.out.fl.1).mono ?_
      rintro e w7 ⟨rfl, rfl⟩
      have hadd1 := fun w => run_float_arith (P := Tryz.prog) (w := w) .add 30 .f64 _ _ _ HST.out.1
      go_wp2_with fail
      refine (math_AbsW _ HTO.out.fl.2).mono ?_
      rintro e w8 ⟨rfl, rfl⟩
      have hadd2 := fun w => run_float_arith (P := Tryz.prog) (w := w) .add 30 .f64 _ _ _ HST.out.2
      go_wp2_with fail
      go_roundg (k - (i + 1))
      case measure => omega
      case rel => exact ⟨i + 1, by simp, by omega, rfl, H6.out⟩
    · have hin2 : i = k := by omega
      have hg0 : gk = 0 := by omega
      have HTK : Hid (szW (P.ts.take i) = szW P.ts) := by show _ = _; rw [hin2, ← HL.out, List.take_length]
      have HTK2 : Hid ((P.ts.take i).map zCell = P.ts.map zCell) := by show _ = _; rw [hin2, ← HL.out, List.take_length]
      obtain ⟨a1, a2, zv, a3, a4⟩ := KK.out
      obtain ⟨z0, z1, z2, z3, z4⟩ := cell5 a2
      obtain ⟨y0, y1, y2, y3, y4, y5, y6, y7⟩ := cell8 a3
      have f7 := free8 a3 7
      have H9 := Lib.hid (And.intro a1 (And.intro a2 (And.intro a3 a4)))
      have hl9 := heap_lt a3
      clear a1 a2 a3 a4 hi
      rw [HTK.out]
      have HI := Lib.hid hin2
      clear hin2
      go_wp2_with fail
      refine (math_AbsW _ (x := m) (by rw [← HMW.out]; exact (fn_flo HP.out.2.1 (by decide) (by decide)).2.1)).mono ?_
      rintro e w7 ⟨rfl, rfl⟩
      have ht1 := HBD.out.tot
      have ht2 := HBD.out.cnt
      rw [HMW.out] at ht1
      rw [HL.out] at ht2
      have hadd1 := fun w => run_float_arith (P := Tryz.prog) (w := w) .add 30 .f64 _ _ _ ht1
      have hadd2 := fun w => run_float_arith (P := Tryz.prog) (w := w) .mul 30 .f64 _ _ _ ht2
      have hadd3 := HBD.out.bd0
      rw [HL.out] at hadd3
      have hadd4 := fun w => run_float_arith (P := Tryz.prog) (w := w) .mul 30 .f64 _ _ _ hadd3
      have hcn := HCN.out
      clear ht1 ht2 hadd3
      go_wp2_with fail
      refine (real_Next _ HBD.out.fp.1 HBD.out.fp.2).mono ?_
      rintro e w8 ⟨rfl, rfl⟩
      clear hadd1 hadd2 hadd4 hcn
      go_wp2_with fail
      go_ret
      have hfin := wk_last (show BegW w _ (.string nm) (.bool g) (.slice A n1 c) (.slice A' n2 c') B k d m P.ts i from ⟨H9.out.1, H9.out.2.1, zv, H9.out.2.2.1, H9.out.2.2.2⟩) HI.out HL.out HMW.out HT.out
      exact ⟨_, rfl, hfin.1, hfin.2⟩
end Go.Proofs.YtcbkijeonilcjaaGreat

/- The kit of the statements: copies of words. -/
namespace Go.Proofs.YtcbkijeonilcjaaGreat
open Go.RowKit

theorem kit_CopyWords (A : Option Addr) (n c : Nat) (l : List Nat) (w : World) (h : Rd w A n c l) :
    Calls Tryz.prog 193 #[.slice A n c] w fun e w' => ∃ v, e = .returned v ∧ Own 116 w' w.heap.size v l ∧ Below w.heap.size w w' := by
  obtain ⟨i0, hi0, hz0, hz1, hz2⟩ := info_parts u32_info
  have hb := h.big.1
  have HL := Lib.hid h.lim
  have HO := Lib.hid (World.ownsRow_lit (base := w.heap.size) (e := 116) (size := 1) w #[] 0 (Nat.le_refl _) (Nat.zero_le _) rfl)
  have HR := Lib.hid (h.below ((Below.refl _ _).alloc (Nat.le_refl _) (.cells #[] 116)))
  clear h
  go_enter Tryz.func193, Tryz.ntmps193
  go_wp2_with (at_builtin; refine wpList_append_rd _ rfl (.tmp 3) (.tmp 4) 22 rfl w.heap.size 116 i0 _ Tryz.underlying22 hi0 hz0 hz1 hz2 rfl (.slice (some ⟨w.heap.size, 0, none⟩) 0 0) 0 [] rfl HO.out A n c l rfl HR.out (by omega) (by simp) ?_; intro v1 w1 hown hgr)
  go_ret
  exact ⟨_, rfl, Own.of_row (by simpa using hown) HL.out hb, ((Below.refl _ _).alloc (Nat.le_refl _) _).grown hgr (by simp) (fun k hk => by simp [Value.ownBlock] at hk; omega)⟩
end Go.Proofs.YtcbkijeonilcjaaGreat

/- The kit of the statements: words that are lent, and whether they are as they were. -/
namespace Go.Proofs.YtcbkijeonilcjaaGreat
open Go.RowKit

/-- what stands behind words that are lent -/
def mkL (i : Nat) : List Nat := (List.range i).map (2882343476 + ·)
theorem mkL_succ (i : Nat) : mkL (i + 1) = mkL i ++ [2882343476 + i] := by unfold mkL; rw [List.range_succ, List.map_append]; rfl
theorem mkL_lim (i : Nat) (h : i ≤ 3) : lim (mkL i) := by
  intro x hx
  unfold mkL at hx
  obtain ⟨j, hj, rfl⟩ := List.mem_map.1 hx
  have := List.mem_range.1 hj
  omega
theorem u32s_app (a b : List Nat) : u32s (a ++ b) = u32s a ++ u32s b := by simp [u32s]
theorem kit_CopyWords_row (A : Option Addr) (n c : Nat) (l : List Nat) (w : World) (h : Rd w A n c l) :
    Calls Tryz.prog 193 #[.slice A n c] w fun e w' => ∃ v, e = .returned v ∧ w'.ownsRow w.heap.size 116 1 v n (u32s l) ∧ Below w.heap.size w w' := by
  obtain ⟨i0, hi0, hz0, hz1, hz2⟩ := info_parts u32_info
  have hb := h.big.1
  have HO := Lib.hid (World.ownsRow_lit (base := w.heap.size) (e := 116) (size := 1) w #[] 0 (Nat.le_refl _) (Nat.zero_le _) rfl)
  have HR := Lib.hid (h.below ((Below.refl _ _).alloc (Nat.le_refl _) (.cells #[] 116)))
  clear h
  go_enter Tryz.func193, Tryz.ntmps193
  go_wp2_with (at_builtin; refine wpList_append_rd _ rfl (.tmp 3) (.tmp 4) 22 rfl w.heap.size 116 i0 _ Tryz.underlying22 hi0 hz0 hz1 hz2 rfl (.slice (some ⟨w.heap.size, 0, none⟩) 0 0) 0 [] rfl HO.out A n c l rfl HR.out (by omega) (by simp) ?_; intro v1 w1 hown hgr)
  go_ret
  exact ⟨_, rfl, by simpa using hown, ((Below.refl _ _).alloc (Nat.le_refl _) _).grown hgr (by simp) (fun k hk => by simp [Value.ownBlock] at hk; omega)⟩
theorem row_rd {w : World} {base n : Nat} {v : Value} {l : List Nat} (h : w.ownsRow base 116 1 v n (u32s l)) (hl : lim l) (hn : n ≤ 35184372087808) (hp : 0 < n) : ∃ b c, v = .slice (some ⟨b, 0, none⟩) n c ∧ base ≤ b ∧ Rd w (some ⟨b, 0, none⟩) n c l := by
  rcases h.2 with ⟨rfl, h0⟩ | ⟨g, cap, cur, rfl, hg, hh, h1, h2, h3, h4⟩
  · omega
  · refine ⟨g, cap, rfl, hg, ?_⟩
    rcases Own.of_row h hl hn with ⟨h5, _⟩ | ⟨b, o, n', c', h5, h6, h7⟩
    · cases h5
    · injection h5 with a1 a2 a3
      injection a1 with a1
      injection a1 with a4 a5
      subst a4 a5 a2 a3
      exact h7.rd
set_option maxRecDepth 100000 in
set_option maxHeartbeats 1000000 in
theorem kit_LentWords (A : Option Addr) (n c : Nat) (l : List Nat) (w : World) (h : Rd w A n c l) (hn : n ≤ 100000) :
    Calls Tryz.prog 108 #[.slice A n c] w fun e w' => ∃ b cc, e = .returned (.slice (some ⟨b, 0, none⟩) (n + 3 : Nat) cc) ∧ w.heap.size ≤ b ∧ Rd w' (some ⟨b, 0, none⟩) (n + 3) cc (l ++ mkL 3) ∧ Below w.heap.size w w' := by
  obtain ⟨i0, hi0, hz0, hz1, hz2⟩ := info_parts u32_info
  have HL := Lib.hid h.lim
  have HC := Lib.hid (kit_CopyWords_row A n c l w h)
  clear h
  go_enter Tryz.func108, Tryz.ntmps108
  go_wp2_with fail
  refine HC.out.mono ?_
  rintro e w1 ⟨v1, rfl, hown, hB1⟩
  have H1 := Lib.hid (And.intro hown hB1)
  clear hown hB1
  go_wp2_with fail
  go_loopg [3, 4] 3 (fun g ov iv wr => ∃ i : Nat, iv = .int .i64 i ∧ i + g = 3 ∧ wr.ownsRow w.heap.size 116 1 ov (n + i) (u32s (l ++ mkL i)) ∧ Below w.heap.size w wr)
  case atStart => exact ⟨0, rfl, by omega, by simpa [mkL] using H1.out.1, H1.out.2⟩
  case round =>
    obtain ⟨i, rfl, hi, hown, hB⟩ := hrel
    have HB := Lib.hid hB
    by_cases hin : i < 3
    · obtain ⟨Z, cz, rfl⟩ := row_shape hown
      obtain ⟨W5, hW5⟩ : ∃ x, wr.alloc (.cells #[.int .u32 (2882343476 + (i : Int))] 116) = x := ⟨_, rfl⟩
      have hb5 : Below wr.heap.size wr W5 := by rw [← hW5]; exact (Below.refl _ _).alloc (Nat.le_refl _) _
      have hc5 : W5.cell? ⟨wr.heap.size, 0, none⟩ = some (.int .u32 (2882343476 + (i : Int))) := by
        have h9 := heap_alloc_new wr (.cells #[.int .u32 (2882343476 + (i : Int))] 116)
        rw [hW5] at h9
        simp [World.cell?, h9]
      have HO5 := Lib.hid (And.intro (row_keep hown fun g hg => hb5.block g (row_base hown g hg).2) hc5)
      have HE : Hid (u32s (l ++ mkL i) ++ [.int .u32 (2882343476 + (i : Int))] = u32s (l ++ mkL (i + 1))) := by
        show _ = _
        rw [mkL_succ, ← List.append_assoc, u32s_app (l ++ mkL i)]
        rfl
      have HB5 := Lib.hid (bel_step hB hb5)
      have hsz := HB5.out.size
      clear hown hb5 hc5 hB
      go_wp2_with (at_builtin; refine wpList_append_own_at _ rfl (.tmp 11) (.tmp 15) 22 rfl w.heap.size 116 i0 _ 1 4 Tryz.underlying22 hi0 hz0 hz1 hz2 rfl (by decide) (.slice Z (n + i) cz) (n + i) _ rfl HO5.out.1 ⟨wr.heap.size, 0, none⟩ 1 1 [.int .u32 (2882343476 + (i : Int))] rfl rfl (one_new HO5.out.2) (one_cell rfl) (by unfold maxLen; omega) (by omega) hsz ?_; intro v6 w6 hown hgr _ _; rw [HE.out] at hown; (have H6 := Lib.hid (And.intro hown (HB5.out.grown hgr hsz (fun g hg => (row_base HO5.out.1 g hg).1)))); clear hown hgr; have HW5 := Lib.hid hW5; clear hW5)
      go_roundg (3 - (i + 1))
      case measure => omega
      case rel => exact ⟨i + 1, by simp, by omega, H6.out.1, H6.out.2⟩
    · obtain rfl : i = 3 := by omega
      obtain ⟨b, cc, rfl, hbb, hR⟩ := row_rd hown (lim_append HL.out (mkL_lim 3 (by omega))) (by omega) (by omega)
      have HF := Lib.hid (And.intro hbb (And.intro hR hB))
      clear hown hbb hR hB
      go_wp2_with fail
      go_ret
      exact ⟨_, _, rfl, HF.out⟩
set_option maxRecDepth 100000 in
theorem kit_KeptWords (A A' : Option Addr) (n c c' : Nat) (l : List Nat) (w : World) (h : Rd w A (n + 3) c (l ++ mkL 3)) (h' : Rd w A' n c' l) (hn : n ≤ 100000) :
    Calls Tryz.prog 133 #[.slice A (n + 3 : Nat) c, .slice A' n c'] w fun e w' => e = .returned (.bool true) ∧ Below w.heap.size w w' := by
  have HC := Lib.hid (kit_LentWords A' n c' l w h' hn)
  have HR := Lib.hid h
  clear h h'
  go_enter Tryz.func133, Tryz.ntmps133
  go_wp2_with fail
  refine HC.out.mono ?_
  rintro e w1 ⟨b, cc, rfl, hbb, hR, hB1⟩
  have H1 := Lib.hid (And.intro hR hB1)
  clear hbb hR hB1
  go_wp2_with fail
  refine (kit_SameWords A (some ⟨b, 0, none⟩) (n + 3) (n + 3) c cc _ _ w1 (HR.out.below H1.out.2) H1.out.1).mono ?_
  rintro e w2 ⟨rfl, hd⟩
  go_wp2_with fail
  go_ret
  exact ⟨by simp, H1.out.2.trans (hd.below _)⟩
end Go.Proofs.YtcbkijeonilcjaaGreat
