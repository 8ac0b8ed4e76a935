/- The reference of layer 5: powers of rotors. -/
import Derived.Test.YtcbkijeonilcjaaGreatHC23
import Derived.Test.YtcbkijeonilcjaaGreatHC24
import Derived.Deep.CutRange
import Derived.Deep.CutBlock
import Derived.Deep.LoopGhost
namespace Go.Proofs.YtcbkijeonilcjaaGreat
open Go.RowKit

theorem cells2t_below {w w' : World} {b : Nat} {T : TypeId} {x y : Value} (hB : Below w.heap.size w w') (ht : TypedAt w b T) (h : w.cell? ⟨b, 0, none⟩ = some x ∧ w.cell? ⟨b, 1, none⟩ = some y) :
    (w'.cell? ⟨b, 0, none⟩ = some x ∧ w'.cell? ⟨b, 1, none⟩ = some y) ∧ TypedAt w' b T := ⟨cells2_below hB ht h, ht.below hB⟩

theorem rotD_int (f n : Int) : ((rotD f n : Nat) : Int) = f * f + n * n := by
  unfold rotD
  have a : 0 ≤ f * f := by rcases Int.le_total 0 f with h | h; exact Int.mul_nonneg h h; exact Int.mul_nonneg_of_nonpos_of_nonpos h h
  have b : 0 ≤ n * n := by rcases Int.le_total 0 n with h | h; exact Int.mul_nonneg h h; exact Int.mul_nonneg_of_nonpos_of_nonpos h h
  omega
theorem WBox.mono {w : World} {b lo lo' : Nat} {z : Int} (h : WBox w b lo z) (hl : lo' ≤ lo) : WBox w b lo' z := by
  obtain ⟨h0, A, c, h1, h2⟩ := h
  exact ⟨h0, A, c, h1, h2.mono hl⟩
theorem wl_small {x : Nat} (h : x ≤ 4000000) : wl x ≤ 50000 := by
  exact Nat.le_trans ((wl_le (x := x) (n := 1)).2 (Nat.lt_of_le_of_lt h (by decide))) (by decide)
theorem wl_prod {x a : Int} (h : wl x.natAbs ≤ 705) (ha : a.natAbs ≤ 1000) : wl (x * a).natAbs ≤ 50000 := by
  rw [Int.natAbs_mul]
  have h1 := wl_mul x.natAbs a.natAbs
  have h2 := (wl_le (x := a.natAbs) (n := 1)).2 (Nat.lt_of_le_of_lt ha (by decide))
  omega
theorem WhR.words {w : World} {b : Value} {A : Option Addr} {n c : Nat} {z : Int} (h : WhR w (.agg #[b, .slice A n c]) z) : Rd w A (wl z.natAbs) c (wds z.natAbs) := by
  obtain ⟨A', c', he, hA⟩ := h
  simp at he
  obtain ⟨_, rfl, _, rfl⟩ := he
  exact hA
def PSt (w : World) (f n : Int) (P H D : Nat) (w' : World) : Prop :=
  WBox w' P (w.heap.size + 2) f ∧ WBox w' H (w.heap.size + 2) n ∧ WBox w' D (w.heap.size + 2) ((rotD f n : Nat) : Int) ∧ w'.heap[w.heap.size + 1]? = some (.cells #[.bool false, .slice none 0 0, .slice none 0 0, .bool false, .slice none 0 0, .slice none 0 0] 83) ∧ Below w.heap.size w w'
theorem PSt.below {w : World} {f n : Int} {P H D : Nat} {w' w'' : World} (h : PSt w f n P H D w') (hB : Below w'.heap.size w' w'') : PSt w f n P H D w'' :=
  ⟨h.1.below hB, h.2.1.below hB, h.2.2.1.below hB, blk_below hB h.2.2.2.1, bel_step h.2.2.2.2 hB⟩
theorem PSt.lt {w : World} {f n : Int} {P H D : Nat} {w' : World} (h : PSt w f n P H D w') : D < w'.heap.size := h.2.2.1.lt
def PS2 (w : World) (f n : Int) (P H D R I E : Nat) (x y d : Int) (w' : World) : Prop :=
  PSt w f n P H D w' ∧ WBox w' R (w.heap.size + 2) x ∧ WBox w' I (w.heap.size + 2) y ∧ WBox w' E (w.heap.size + 2) d
theorem PS2.below {w : World} {f n : Int} {P H D R I E : Nat} {x y d : Int} {w' w'' : World} (h : PS2 w f n P H D R I E x y d w') (hB : Below w'.heap.size w' w'') : PS2 w f n P H D R I E x y d w'' :=
  ⟨h.1.below hB, h.2.1.below hB, h.2.2.1.below hB, h.2.2.2.below hB⟩
theorem PSt.set {w : World} {f n : Int} {P H D b : Nat} {w' : World} {a c : Value} (h : PSt w f n P H D w') (ht : TypedAt w' b 233) (h1 : P ≠ b) (h2 : H ≠ b) (h3 : D ≠ b) (h4 : w.heap.size + 2 ≤ b) : PSt w f n P H D ((w'.setCell ⟨b, 0, none⟩ a).setCell ⟨b, 1, none⟩ c) :=
  ⟨h.1.other ht h1, h.2.1.other ht h2, h.2.2.1.other ht h3, set2_keep h.2.2.2.1 (by omega), bel_set (bel_set h.2.2.2.2 (by omega) _) (by omega) _⟩
theorem PS2.setR {w : World} {f n : Int} {P H D R I E : Nat} {x y d x' : Int} {w' : World} {A : Option Addr} {c : Nat} (h : PS2 w f n P H D R I E x y d w') (hW : WhO w' (w.heap.size + 2) (.agg #[.bool (decide (x' < 0)), .slice A (wl x'.natAbs) c]) x') (h1 : P ≠ R) (h2 : H ≠ R) (h3 : D ≠ R) (h4 : w.heap.size + 2 ≤ R) (h5 : R ≠ I) (h6 : R ≠ E) :
    PS2 w f n P H D R I E x' y d ((w'.setCell ⟨R, 0, none⟩ (.bool (decide (x' < 0)))).setCell ⟨R, 1, none⟩ (.slice A (wl x'.natAbs) c)) :=
  ⟨h.1.set h.2.1.1 h1 h2 h3 h4, h.2.1.put hW, h.2.2.1.other h.2.1.1 h5.symm, h.2.2.2.other h.2.1.1 h6.symm⟩
theorem PS2.setI {w : World} {f n : Int} {P H D R I E : Nat} {x y d y' : Int} {w' : World} {A : Option Addr} {c : Nat} (h : PS2 w f n P H D R I E x y d w') (hW : WhO w' (w.heap.size + 2) (.agg #[.bool (decide (y' < 0)), .slice A (wl y'.natAbs) c]) y') (h1 : P ≠ I) (h2 : H ≠ I) (h3 : D ≠ I) (h4 : w.heap.size + 2 ≤ I) (h5 : R ≠ I) (h6 : I ≠ E) :
    PS2 w f n P H D R I E x y' d ((w'.setCell ⟨I, 0, none⟩ (.bool (decide (y' < 0)))).setCell ⟨I, 1, none⟩ (.slice A (wl y'.natAbs) c)) :=
  ⟨h.1.set h.2.2.1.1 h1 h2 h3 h4, h.2.1.other h.2.2.1.1 h5, h.2.2.1.put hW, h.2.2.2.other h.2.2.1.1 h6.symm⟩
theorem PS2.setE {w : World} {f n : Int} {P H D R I E : Nat} {x y d d' : Int} {w' : World} {A : Option Addr} {c : Nat} (h : PS2 w f n P H D R I E x y d w') (hW : WhO w' (w.heap.size + 2) (.agg #[.bool (decide (d' < 0)), .slice A (wl d'.natAbs) c]) d') (h1 : P ≠ E) (h2 : H ≠ E) (h3 : D ≠ E) (h4 : w.heap.size + 2 ≤ E) (h5 : R ≠ E) (h6 : I ≠ E) :
    PS2 w f n P H D R I E x y d' ((w'.setCell ⟨E, 0, none⟩ (.bool (decide (d' < 0)))).setCell ⟨E, 1, none⟩ (.slice A (wl d'.natAbs) c)) :=
  ⟨h.1.set h.2.2.2.1 h1 h2 h3 h4, h.2.1.other h.2.2.2.1 h5, h.2.2.1.other h.2.2.2.1 h6, h.2.2.2.put hW⟩
set_option maxRecDepth 100000 in
set_option maxHeartbeats 4000000 in
theorem ref05_Power (f n : Int) (t : Nat) (w : World) (hr : rotOk f n) (ht : t ≤ 1024) :
    Calls Tryz.prog 120 #[.agg #[.int .i32 f, .int .i32 n], .int .i64 t] w fun e1 w' => ∃ v, e1 = .returned (.tuple #[v, .int .i64 0]) ∧ GtO w' w.heap.size w'.heap.size v (cpw (rotZ f n) t).1 (cpw (rotZ f n) t).2 ∧ Below w.heap.size w w' := by
  have HC := Lib.hid (ref05_Check f n)
  have HE : Hid (rotE f n = 0) := by show rotE f n = 0; unfold rotE; rw [if_pos hr]
  have HR := Lib.hid hr
  have hbf : Hid (f.natAbs ≤ 2147483648 ∧ n.natAbs ≤ 2147483648) := by
    have := hr.1; have := hr.2.1; have := hr.2.2.1; have := hr.2.2.2.1
    exact ⟨by omega, by omega⟩
  have b1 := hr.1
  have b2 := hr.2.1
  have b3 := hr.2.2.1
  have b4 := hr.2.2.2.1
  have e1 : ((t : Int) < -1024) = False := by simp only [eq_iff_iff, iff_false]; omega
  have e2 : ((1024 : Int) < (t : Int)) = False := by simp; omega
  obtain ⟨W0, hW0⟩ : ∃ x, (w.alloc (.cells #[.int .i32 f, .int .i32 n] 58)).alloc (.cells #[.bool false, .slice none 0 0, .slice none 0 0, .bool false, .slice none 0 0, .slice none 0 0] 83) = x := ⟨_, rfl⟩
  have hb0 : Below w.heap.size w W0 := by rw [← hW0]; exact ((Below.refl _ _).alloc (Nat.le_refl _) _).alloc (by simp) _
  have hr0 : W0.heap[w.heap.size + 1]? = some (.cells #[.bool false, .slice none 0 0, .slice none 0 0, .bool false, .slice none 0 0, .slice none 0 0] 83) := by rw [← hW0]; simpa using heap_alloc_new (w.alloc _) _
  have hk0 : W0.heap[w.heap.size]? = some (.cells #[.int .i32 f, .int .i32 n] 58) := by rw [← hW0]; exact alloc_keep (heap_alloc_new w _) _
  have hs0 : W0.heap.size = w.heap.size + 2 := by rw [← hW0]; simp
  have HB0 := Lib.hid (And.intro hb0 (And.intro hr0 (And.intro hk0 hs0)))
  have z0 : W0.cell? ⟨w.heap.size, 0, none⟩ = some (.int .i32 f) := by simp [World.cell?, hk0]
  have z1 : W0.cell? ⟨w.heap.size, 1, none⟩ = some (.int .i32 n) := by simp [World.cell?, hk0]
  clear hb0 hr0 hk0 hs0 hr
  go_enter Tryz.func120, Tryz.ntmps120
  go_wp2_with fail
  have HW0 := Lib.hid hW0
  clear hW0 z0 z1
  refine (HC.out _ hbf.out.1 hbf.out.2).mono ?_
  rintro e4 w1 ⟨rfl, hB1⟩
  rw [HE.out]
  have hr1 := (hB1.block _ (heap_lt HB0.out.2.1)).trans HB0.out.2.1
  have hk1 := (hB1.block _ (heap_lt HB0.out.2.2.1)).trans HB0.out.2.2.1
  have HB1 := Lib.hid (And.intro (HB0.out.1.trans (hB1.mono HB0.out.1.size)) (And.intro hr1 (And.intro hk1 hB1.size)))
  clear hr1 hk1 hB1
  go_wp2_with fail
  go_cut [7, 8] from 7 to 87 (fun pv hv wx => ∃ P H : Nat, pv = .pointer (some ⟨P, 0, none⟩) ∧ hv = .pointer (some ⟨H, 0, none⟩) ∧ P ≠ H ∧ w.heap.size + 2 ≤ P ∧ w.heap.size + 2 ≤ H ∧ WBox wx P (w.heap.size + 2) f ∧ WBox wx H (w.heap.size + 2) n ∧ wx.heap[w.heap.size + 1]? = some (.cells #[.bool false, .slice none 0 0, .slice none 0 0, .bool false, .slice none 0 0, .slice none 0 0] 83) ∧ Below w.heap.size w wx)
  case first =>
    have hk1 : w1.heap[w.heap.size]? = some (.cells #[.int .i32 f, .int .i32 n] 58) := HB1.out.2.2.1
    have HK1 := Lib.hid hk1
    have HKd := Lib.hid (show w1.drew.heap[w.heap.size]? = some (.cells #[.int .i32 f, .int .i32 n] 58) from hk1)
    have hsz := HB1.out.2.2.2
    rw [HB0.out.2.2.2] at hsz
    have hl0 : w.heap.size < w1.heap.size := by omega
    have wf : IntKind.i64.wrap f = f := by rw [IntKind.wrap_i64]; omega
    have wn : IntKind.i64.wrap n = n := by rw [IntKind.wrap_i64]; omega
    clear hk1
    have qa : True := trivial
    have qb : True := trivial
    have tqa : True := trivial
    have tqb : True := trivial
    have HK2 : True := trivial
    have HK3 : True := trivial
    go_region_held3 (fun w' => w'.cell? ⟨w.heap.size, 0, none⟩ = some (.int .i32 f) ∧ w'.cell? ⟨w.heap.size, 1, none⟩ = some (.int .i32 n))
      (exact rot_cells (by
        repeat (first
          | with_reducible exact HK3.out
          | with_reducible exact HK2.out
          | with_reducible exact HK1.out
          | with_reducible exact HKd.out
          | with_reducible refine alloc_keep ?_ _
          | with_reducible refine keep_set ?_ ?_
          | (intro hne; dsimp only at hne; omega)
          | exact alloc_keep HK3.out _
          | exact alloc_keep HK2.out _
          | exact alloc_keep HK1.out _
          | exact alloc_keep (alloc_keep HK1.out _) _)))
      (first
        | (go_at_call 206; (with_reducible refine (ref02_Of f _ (by omega) (by omega)).mono ?_); rintro e w2 ⟨v2, rfl, hG2, hB2⟩; obtain ⟨A2, c2, rfl⟩ := hG2.agg; have HK2 := Lib.hid (show w2.heap[w.heap.size]? = some (.cells #[.int .i32 f, .int .i32 n] 58) from blk_below hB2 (drew_keep (by repeat (first | with_reducible exact HK1.out | with_reducible refine alloc_keep ?_ _)))); have hz2 := hB2.size; (try simp at hz2); (have s20 : w.heap.size < w2.heap.size := by omega); (have s21 : w1.heap.size ≤ w2.heap.size := by omega); (try (refine imp_use (P := w2.heap[w1.heap.size]? = some (.cells #[.bool false, .slice none 0 0] 233 (0, 0))) ?_ ?_; (focus (refine blk_below2 hB2 ?_; (repeat (first | with_reducible exact heap_new _ rfl | ((with_reducible refine heap_new _ ?_); simp; done) | with_reducible refine alloc_keep ?_ _ | with_reducible refine keep_set ?_ ?_ | (intro hne; dsimp only at hne; omega))); done)); intro qa; have tqa : TypedAt w2 (w1.heap.size) 233 := TypedAt.of qa; obtain ⟨qa0, qa1, qa2, qa3⟩ := cell2 qa; have qal := heap_lt qa)); (try (refine imp_use (P := w2.heap[w1.heap.size + 1]? = some (.cells #[.bool false, .slice none 0 0] 233 (0, 0))) ?_ ?_; (focus (refine blk_below2 hB2 ?_; (repeat (first | with_reducible exact heap_new _ rfl | ((with_reducible refine heap_new _ ?_); simp; done) | with_reducible refine alloc_keep ?_ _ | with_reducible refine keep_set ?_ ?_ | (intro hne; dsimp only at hne; omega))); done)); intro qb; have tqb : TypedAt w2 (w1.heap.size + 1) 233 := TypedAt.of qb; obtain ⟨qb0, qb1, qb2, qb3⟩ := cell2 qb; have qbl := heap_lt qb)))
        | (go_at_call 206; (with_reducible refine (ref02_Of n _ (by omega) (by omega)).mono ?_); rintro e w3 ⟨v3, rfl, hG3, hB3⟩; obtain ⟨A3, c3, rfl⟩ := hG3.agg; have hz3 := hB3.size; (try simp at hz3); (have s30 : w.heap.size < w3.heap.size := by omega); have HK3 := Lib.hid (show w3.heap[w.heap.size]? = some (.cells #[.int .i32 f, .int .i32 n] 58) from blk_below hB3 (by repeat (first | with_reducible exact HK2.out | with_reducible refine alloc_keep ?_ _ | with_reducible refine keep_set ?_ ?_ | (intro hne; dsimp only at hne; omega)))); (try (refine imp_use (P := w3.heap[w1.heap.size]? = some (.cells #[.bool false, .slice none 0 0] 233 (0, 0))) ?_ ?_; (focus (refine blk_below hB3 ?_; (repeat (first | with_reducible exact heap_new _ rfl | ((with_reducible refine heap_new _ ?_); simp; done) | with_reducible refine alloc_keep ?_ _ | with_reducible refine keep_set ?_ ?_ | (intro hne; dsimp only at hne; omega) | with_reducible exact qa | with_reducible exact qb)); done)); intro qc; have tqc : TypedAt w3 (w1.heap.size) 233 := TypedAt.of qc; obtain ⟨qc0, qc1, qc2, qc3⟩ := cell2 qc; have qcl := heap_lt qc)); (try (refine imp_use (P := w3.heap[w1.heap.size + 1]? = some (.cells #[.bool false, .slice none 0 0] 233 (0, 0))) ?_ ?_; (focus (refine blk_below hB3 ?_; (repeat (first | with_reducible exact heap_new _ rfl | ((with_reducible refine heap_new _ ?_); simp; done) | with_reducible refine alloc_keep ?_ _ | with_reducible refine keep_set ?_ ?_ | (intro hne; dsimp only at hne; omega) | with_reducible exact qa | with_reducible exact qb)); done)); intro qd; have tqd : TypedAt w3 (w1.heap.size + 1) 233 := TypedAt.of qd; obtain ⟨qd0, qd1, qd2, qd3⟩ := cell2 qd; have qdl := heap_lt qd)); (try (refine imp_use (P := w3.heap[w2.heap.size]? = some (.cells #[.bool false, .slice none 0 0] 233 (0, 0))) ?_ ?_; (focus (refine blk_below hB3 ?_; (repeat (first | with_reducible exact heap_new _ rfl | ((with_reducible refine heap_new _ ?_); simp; done) | with_reducible refine alloc_keep ?_ _ | with_reducible refine keep_set ?_ ?_ | (intro hne; dsimp only at hne; omega) | with_reducible exact qa | with_reducible exact qb)); done)); intro qe; have tqe : TypedAt w3 (w2.heap.size) 233 := TypedAt.of qe; obtain ⟨qe0, qe1, qe2, qe3⟩ := cell2 qe; have qel := heap_lt qe)); (try (refine imp_use (P := w3.heap[w2.heap.size + 1]? = some (.cells #[.bool false, .slice none 0 0] 233 (0, 0))) ?_ ?_; (focus (refine blk_below hB3 ?_; (repeat (first | with_reducible exact heap_new _ rfl | ((with_reducible refine heap_new _ ?_); simp; done) | with_reducible refine alloc_keep ?_ _ | with_reducible refine keep_set ?_ ?_ | (intro hne; dsimp only at hne; omega) | with_reducible exact qa | with_reducible exact qb)); done)); intro qf; have tqf : TypedAt w3 (w2.heap.size + 1) 233 := TypedAt.of qf; obtain ⟨qf0, qf1, qf2, qf3⟩ := cell2 qf; have qfl := heap_lt qf)); (try (refine imp_use (P := (w3.cell? ⟨w1.heap.size, 0, none⟩ = some (.bool (decide (f < 0))) ∧ w3.cell? ⟨w1.heap.size, 1, none⟩ = some (.slice A2 (wl f.natAbs) c2)) ∧ TypedAt w3 (w1.heap.size) 233) ?_ ?_; (focus (refine cells2t_below hB3 ?_ ?_; (focus ((repeat (first | ((with_reducible refine TypedAt.new ?_); (first | with_reducible rfl | (simp only [World.size_alloc]; done))) | with_reducible refine TypedAt.setc ?_ _ _ _ | with_reducible refine TypedAt.alloc ?_ _ | with_reducible exact tqa | with_reducible exact tqb )); done)); (focus (simp; done)))); rintro ⟨⟨pc0, pc1⟩, tpc⟩; have pcl : w1.heap.size < w3.heap.size := typed_lt tpc)); (try (refine imp_use (P := (w3.cell? ⟨w1.heap.size + 1, 0, none⟩ = some (.bool (decide (f < 0))) ∧ w3.cell? ⟨w1.heap.size + 1, 1, none⟩ = some (.slice A2 (wl f.natAbs) c2)) ∧ TypedAt w3 (w1.heap.size + 1) 233) ?_ ?_; (focus (refine cells2t_below hB3 ?_ ?_; (focus ((repeat (first | ((with_reducible refine TypedAt.new ?_); (first | with_reducible rfl | (simp only [World.size_alloc]; done))) | with_reducible refine TypedAt.setc ?_ _ _ _ | with_reducible refine TypedAt.alloc ?_ _ | with_reducible exact tqa | with_reducible exact tqb )); done)); (focus (simp; done)))); rintro ⟨⟨pd0, pd1⟩, tpd⟩; have pdl : w1.heap.size + 1 < w3.heap.size := typed_lt tpd)); (try (refine imp_use (P := (w3.cell? ⟨w2.heap.size, 0, none⟩ = some (.bool (decide (f < 0))) ∧ w3.cell? ⟨w2.heap.size, 1, none⟩ = some (.slice A2 (wl f.natAbs) c2)) ∧ TypedAt w3 (w2.heap.size) 233) ?_ ?_; (focus (refine cells2t_below hB3 ?_ ?_; (focus ((repeat (first | ((with_reducible refine TypedAt.new ?_); (first | with_reducible rfl | (simp only [World.size_alloc]; done))) | with_reducible refine TypedAt.setc ?_ _ _ _ | with_reducible refine TypedAt.alloc ?_ _ | with_reducible exact tqa | with_reducible exact tqb )); done)); (focus (simp; done)))); rintro ⟨⟨pe0, pe1⟩, tpe⟩; have pel : w2.heap.size < w3.heap.size := typed_lt tpe)); (try (refine imp_use (P := (w3.cell? ⟨w2.heap.size + 1, 0, none⟩ = some (.bool (decide (f < 0))) ∧ w3.cell? ⟨w2.heap.size + 1, 1, none⟩ = some (.slice A2 (wl f.natAbs) c2)) ∧ TypedAt w3 (w2.heap.size + 1) 233) ?_ ?_; (focus (refine cells2t_below hB3 ?_ ?_; (focus ((repeat (first | ((with_reducible refine TypedAt.new ?_); (first | with_reducible rfl | (simp only [World.size_alloc]; done))) | with_reducible refine TypedAt.setc ?_ _ _ _ | with_reducible refine TypedAt.alloc ?_ _ | with_reducible exact tqa | with_reducible exact tqb )); done)); (focus (simp; done)))); rintro ⟨⟨pf0, pf1⟩, tpf⟩; have pfl : w2.heap.size + 1 < w3.heap.size := typed_lt tpf))))
    all_goals
      go_wp2_with fail
      go_meet
      case rel =>
        clear HC HE HR hbf HW0
        refine ⟨_, _, rfl, rfl, ?_, ?_, ?_, ?_, ?_, fin2 HB1.out.1 HB1.out.2.1 ?_⟩
        · omega
        · omega
        · omega
        · refine WBox.mk (A := A2) (c := c2) ?_ ?_ ?_
          · (repeat (first | ((with_reducible refine TypedAt.new ?_); (first | with_reducible rfl | (simp only [World.size_setCell, World.size_alloc]; done))) | with_reducible refine TypedAt.setc ?_ _ _ _ | with_reducible refine TypedAt.alloc ?_ _ | with_reducible exact tqc | with_reducible exact tqd | with_reducible exact tqe | with_reducible exact tqf | with_reducible exact tpc | with_reducible exact tpd | with_reducible exact tpe | with_reducible exact tpf | with_reducible refine TypedAt.below ?_ hB3 | with_reducible exact tqa | with_reducible exact tqb))
          · first | (go_simp; done) | (simp [go_sem, *]; done)
          · refine (hG2.kp ?_).mono (Nat.le_trans hsz (by first | exact sz0 _ | exact sz1 _ _ | exact sz2 _ _ _))
            · (repeat (first | with_reducible exact Kp.refl _ | with_reducible refine Kp.alloc ?_ _ | with_reducible refine Kp.setc (T := 233) ?_ ?_ (by decide) | with_reducible refine Kp.below ?_ hB3 | ((with_reducible refine TypedAt.new ?_); (first | with_reducible rfl | (simp only [World.size_setCell, World.size_alloc]; done))) | with_reducible refine TypedAt.setc ?_ _ _ _ | with_reducible refine TypedAt.alloc ?_ _ | with_reducible exact tqc | with_reducible exact tqd | with_reducible exact tqe | with_reducible exact tqf | with_reducible exact tpc | with_reducible exact tpd | with_reducible exact tpe | with_reducible exact tpf | with_reducible refine TypedAt.below ?_ hB3 | with_reducible exact tqa | with_reducible exact tqb))
        · refine WBox.mk (A := A3) (c := c3) ?_ ?_ ?_
          · (repeat (first | ((with_reducible refine TypedAt.new ?_); (first | with_reducible rfl | (simp only [World.size_setCell, World.size_alloc]; done))) | with_reducible refine TypedAt.setc ?_ _ _ _ | with_reducible refine TypedAt.alloc ?_ _ | with_reducible exact tqc | with_reducible exact tqd | with_reducible exact tqe | with_reducible exact tqf | with_reducible exact tpc | with_reducible exact tpd | with_reducible exact tpe | with_reducible exact tpf | with_reducible refine TypedAt.below ?_ hB3 | with_reducible exact tqa | with_reducible exact tqb))
          · first | (go_simp; done) | (simp [go_sem, *]; done)
          · refine (hG3.kp ?_).mono ?_
            · (repeat (first | with_reducible exact Kp.refl _ | with_reducible refine Kp.alloc ?_ _ | with_reducible refine Kp.setc (T := 233) ?_ ?_ (by decide) | with_reducible refine Kp.below ?_ hB3 | ((with_reducible refine TypedAt.new ?_); (first | with_reducible rfl | (simp only [World.size_setCell, World.size_alloc]; done))) | with_reducible refine TypedAt.setc ?_ _ _ _ | with_reducible refine TypedAt.alloc ?_ _ | with_reducible exact tqc | with_reducible exact tqd | with_reducible exact tqe | with_reducible exact tqf | with_reducible exact tpc | with_reducible exact tpd | with_reducible exact tpe | with_reducible exact tpf | with_reducible refine TypedAt.below ?_ hB3 | with_reducible exact tqa | with_reducible exact tqb))
            · first | omega | (simp only [World.size_alloc]; omega)
        · (repeat (first | with_reducible exact Below.refl _ _ | with_reducible refine bel_drew ?_ | with_reducible refine bel_alloc ?_ _ | with_reducible refine bel_set ?_ ?_ _ | with_reducible refine bel_step ?_ hB3 | with_reducible refine bel_step ?_ hB2 | omega))
  case rest =>
    obtain ⟨P, H, rfl, rfl, hPH, hPl, hHl, hbP, hbH, hrB, hB2⟩ := hcut
    have HR2 := Lib.hid hrB
    clear hrB
    have e3 : ((t : Int) < 0) = False := by simp only [eq_iff_iff, iff_false]; omega
    go_upto_region 10 with fail
    have ef : f.natAbs ≤ 1000 := by omega
    have en : n.natAbs ≤ 1000 := by omega
    go_cut [9] from 9 to 87 (fun dv wx => ∃ D : Nat, dv = .pointer (some ⟨D, 0, none⟩) ∧ wc.heap.size ≤ D ∧ WBox wx D wc.heap.size (f * f + n * n) ∧ Below wc.heap.size wc wx)
    case first =>
      clear HC HE HR hbf HW0
      obtain ⟨pA, pc, p01, hRp⟩ := hbP.get
      obtain ⟨hA, hc, h01, hRh⟩ := hbH.get
      have hS : ∀ w', Below wc.heap.size wc w' → ((w'.cell? ⟨P, 0, none⟩ = some (.bool (decide (f < 0))) ∧ w'.cell? ⟨P, 1, none⟩ = some (.slice pA (wl f.natAbs) pc)) ∧ (w'.cell? ⟨H, 0, none⟩ = some (.bool (decide (n < 0))) ∧ w'.cell? ⟨H, 1, none⟩ = some (.slice hA (wl n.natAbs) hc))) := fun w' h => ⟨cells2_below h hbP.1 p01, cells2_below h hbH.1 h01⟩
      have lf : wl f.natAbs ≤ 50000 := wl_small (by omega)
      have ln : wl n.natAbs ≤ 50000 := wl_small (by omega)
      have lff : wl (f * f).natAbs ≤ 50000 := wl_small (by rw [Int.natAbs_mul]; exact Nat.le_trans (Nat.mul_le_mul ef ef) (by decide))
      have lnn : wl (n * n).natAbs ≤ 50000 := wl_small (by rw [Int.natAbs_mul]; exact Nat.le_trans (Nat.mul_le_mul en en) (by decide))
      have hP1 := fun (w' : World) (h : Below wc.heap.size wc w') => ref02_Product w' (hRp.below h) (hRp.below h) lf lf
      have hP2 := fun (w' : World) (h : Below wc.heap.size wc w') => ref02_Product w' (hRh.below h) (hRh.below h) ln ln
      have hBv1 : True := trivial
      have hBv2 : True := trivial
      have hBv3 : True := trivial
      have qav1 : True := trivial
      have qav2 : True := trivial
      have qav3 : True := trivial
      have qbv2 : True := trivial
      have qbv3 : True := trivial
      have qcv3 : True := trivial
      have tqav1 : True := trivial
      have tqav2 : True := trivial
      have tqav3 : True := trivial
      have tqbv2 : True := trivial
      have tqbv3 : True := trivial
      have tqcv3 : True := trivial
      go_region_held3 (fun w' => (w'.cell? ⟨P, 0, none⟩ = some (.bool (decide (f < 0))) ∧ w'.cell? ⟨P, 1, none⟩ = some (.slice pA (wl f.natAbs) pc)) ∧ (w'.cell? ⟨H, 0, none⟩ = some (.bool (decide (n < 0))) ∧ w'.cell? ⟨H, 1, none⟩ = some (.slice hA (wl n.natAbs) hc)))
        (exact hS _ (by (repeat (first | with_reducible exact Below.refl _ _ | with_reducible exact hBv3 | with_reducible exact hBv2 | with_reducible exact hBv1 | with_reducible refine bel_drew ?_ | with_reducible refine bel_alloc ?_ _ | with_reducible refine bel_set ?_ ?_ _ | omega))))
        (first
          | (go_at_call 209; (with_reducible refine (hP1 _ ?_).mono ?_); (focus ((repeat (first | with_reducible exact Below.refl _ _ | with_reducible refine bel_drew ?_ | with_reducible refine bel_alloc ?_ _)); done)); rintro e v1 ⟨uv1, rfl, hWv1, hCv1⟩; have hzv1 := hCv1.size; (try simp at hzv1); (refine imp_use (P := Below wc.heap.size wc v1) ?_ ?_; (focus (refine bel_step ?_ hCv1; (repeat (first | with_reducible exact Below.refl _ _ | with_reducible refine bel_drew ?_ | with_reducible refine bel_alloc ?_ _)); done)); intro hBv1); have hyv1 := hBv1.size; obtain ⟨Av1, cv1, rfl⟩ := hWv1.agg; (try (refine imp_use (P := v1.heap[wc.heap.size]? = some (.cells #[.bool false, .slice none 0 0] 233 (0, 0))) ?_ ?_; (focus (refine blk_below2 hCv1 ?_; (repeat (first | with_reducible exact heap_new _ rfl | ((with_reducible refine heap_new _ ?_); simp; done) | with_reducible refine alloc_keep ?_ _)); done)); intro qav1; have tqav1 : TypedAt v1 (wc.heap.size) 233 := TypedAt.of qav1; obtain ⟨qav10, qav11, qav12, qav13⟩ := cell2 qav1; have qav1l := heap_lt qav1)))
          | (go_at_call 209; (with_reducible refine (hP2 _ ?_).mono ?_); (focus ((repeat (first | with_reducible exact Below.refl _ _ | with_reducible exact hBv1 | with_reducible refine bel_drew ?_ | with_reducible refine bel_alloc ?_ _)); done)); rintro e v2 ⟨uv2, rfl, hWv2, hCv2⟩; have hzv2 := hCv2.size; (try simp at hzv2); (refine imp_use (P := Below wc.heap.size wc v2) ?_ ?_; (focus (refine bel_step ?_ hCv2; (repeat (first | with_reducible exact Below.refl _ _ | with_reducible exact hBv1 | with_reducible refine bel_drew ?_ | with_reducible refine bel_alloc ?_ _)); done)); intro hBv2); have hyv2 := hBv2.size; (refine imp_use (P := Below v1.heap.size v1 v2) ?_ ?_; (focus (refine bel_step ?_ hCv2; (repeat (first | with_reducible exact Below.refl _ _ | with_reducible refine bel_drew ?_ | with_reducible refine bel_alloc ?_ _)); done)); intro hB12); obtain ⟨Av2, cv2, rfl⟩ := hWv2.agg; (try (refine imp_use (P := v2.heap[wc.heap.size]? = some (.cells #[.bool false, .slice none 0 0] 233 (0, 0))) ?_ ?_; (focus (refine blk_below hCv2 ?_; (repeat (first | with_reducible exact heap_new _ rfl | ((with_reducible refine heap_new _ ?_); simp; done) | with_reducible refine alloc_keep ?_ _ | with_reducible exact qav1)); done)); intro qav2; have tqav2 : TypedAt v2 (wc.heap.size) 233 := TypedAt.of qav2; obtain ⟨qav20, qav21, qav22, qav23⟩ := cell2 qav2; have qav2l := heap_lt qav2)); (try (refine imp_use (P := v2.heap[v1.heap.size]? = some (.cells #[.bool false, .slice none 0 0] 233 (0, 0))) ?_ ?_; (focus (refine blk_below hCv2 ?_; (repeat (first | with_reducible exact heap_new _ rfl | ((with_reducible refine heap_new _ ?_); simp; done) | with_reducible refine alloc_keep ?_ _)); done)); intro qbv2; have tqbv2 : TypedAt v2 (v1.heap.size) 233 := TypedAt.of qbv2; obtain ⟨qbv20, qbv21, qbv22, qbv23⟩ := cell2 qbv2; have qbv2l := heap_lt qbv2)))
          | (go_at_call 208; (with_reducible refine (ref02_Plus _ (WhR.below (WhO.rd (WhO.below hWv1 hB12)) ?_) (WhR.below (WhO.rd hWv2) ?_) (by assumption) (by assumption)).mono ?_); (focus ((repeat (first | with_reducible exact Below.refl _ _ | with_reducible refine bel_drew ?_ | with_reducible refine bel_alloc ?_ _)); done)); (focus ((repeat (first | with_reducible exact Below.refl _ _ | with_reducible refine bel_drew ?_ | with_reducible refine bel_alloc ?_ _)); done)); rintro e v3 ⟨uv3, rfl, hWv3, hCv3⟩; have hzv3 := hCv3.size; (try simp at hzv3); (refine imp_use (P := Below wc.heap.size wc v3) ?_ ?_; (focus (refine bel_step ?_ hCv3; (repeat (first | with_reducible exact Below.refl _ _ | with_reducible exact hBv2 | with_reducible exact hBv1 | with_reducible refine bel_drew ?_ | with_reducible refine bel_alloc ?_ _)); done)); intro hBv3); have hyv3 := hBv3.size; obtain ⟨Av3, cv3, rfl⟩ := hWv3.agg; (try (refine imp_use (P := v3.heap[wc.heap.size]? = some (.cells #[.bool false, .slice none 0 0] 233 (0, 0))) ?_ ?_; (focus (refine blk_below hCv3 ?_; (repeat (first | with_reducible exact heap_new _ rfl | ((with_reducible refine heap_new _ ?_); simp; done) | with_reducible refine alloc_keep ?_ _ | with_reducible exact qav1 | with_reducible exact qav2)); done)); intro qav3; have tqav3 : TypedAt v3 (wc.heap.size) 233 := TypedAt.of qav3; obtain ⟨qav30, qav31, qav32, qav33⟩ := cell2 qav3; have qav3l := heap_lt qav3)); (try (refine imp_use (P := v3.heap[v1.heap.size]? = some (.cells #[.bool false, .slice none 0 0] 233 (0, 0))) ?_ ?_; (focus (refine blk_below hCv3 ?_; (repeat (first | with_reducible exact heap_new _ rfl | ((with_reducible refine heap_new _ ?_); simp; done) | with_reducible refine alloc_keep ?_ _ | with_reducible exact qbv2)); done)); intro qbv3; have tqbv3 : TypedAt v3 (v1.heap.size) 233 := TypedAt.of qbv3; obtain ⟨qbv30, qbv31, qbv32, qbv33⟩ := cell2 qbv3; have qbv3l := heap_lt qbv3)); (try (refine imp_use (P := v3.heap[v2.heap.size]? = some (.cells #[.bool false, .slice none 0 0] 233 (0, 0))) ?_ ?_; (focus (refine blk_below hCv3 ?_; (repeat (first | with_reducible exact heap_new _ rfl | ((with_reducible refine heap_new _ ?_); simp; done) | with_reducible refine alloc_keep ?_ _)); done)); intro qcv3; have tqcv3 : TypedAt v3 (v2.heap.size) 233 := TypedAt.of qcv3; obtain ⟨qcv30, qcv31, qcv32, qcv33⟩ := cell2 qcv3; have qcv3l := heap_lt qcv3))))
      all_goals
        go_wp2_with fail
        go_meet
        case rel =>
          refine ⟨_, rfl, ?_, ?_, ?_⟩
          · omega
          · refine WBox.mk (z := (f * f + n * n)) (A := Av3) (c := cv3) ?_ ?_ ?_
            · (repeat (first | ((with_reducible refine TypedAt.new ?_); (first | with_reducible rfl | (simp only [World.size_setCell, World.size_alloc]; done))) | with_reducible refine TypedAt.setc ?_ _ _ _ | with_reducible refine TypedAt.alloc ?_ _ | with_reducible exact tqav3 | with_reducible exact tqbv3 | with_reducible exact tqcv3 ))
            · first | (go_simp; done) | (simp [go_sem, *]; done)
            · refine (hWv3.kp ?_).mono ?_
              · (repeat (first | with_reducible exact Kp.refl _ | with_reducible refine Kp.alloc ?_ _ | with_reducible refine Kp.setc (T := 233) ?_ ?_ (by decide) | ((with_reducible refine TypedAt.new ?_); (first | with_reducible rfl | (simp only [World.size_setCell, World.size_alloc]; done))) | with_reducible refine TypedAt.setc ?_ _ _ _ | with_reducible refine TypedAt.alloc ?_ _ | with_reducible exact tqav3 | with_reducible exact tqbv3 | with_reducible exact tqcv3 ))
              · first | omega | (simp only [World.size_alloc]; omega)
          · (repeat (first | with_reducible exact hBv3 | with_reducible refine bel_alloc ?_ _ | with_reducible refine bel_set ?_ ?_ _ | omega))
    case rest =>
      obtain ⟨D, rfl, hDl, hbD, hBD⟩ := hcut
      have hPl2 := hbP.lt
      have hHl2 := hbH.lt
      have hsD := hBD.size
      have hb2 := hB2.size
      have K5 := Lib.hid (show PSt w f n P H D wc by
        exact ⟨hbP.below hBD, hbH.below hBD, by rw [rotD_int]; exact hbD.mono (by omega), blk_below hBD HR2.out, bel_step hB2 hBD⟩)
      clear HR2 hbP hbH hbD hBD hB2
      have hDl2 := K5.out.lt
      rename World => w5
      go_upto_region 11 with fail
      go_cut [10, 11, 12] from 10 to 87 (fun rv iv ev wx => ∃ R I E : Nat, rv = .pointer (some ⟨R, 0, none⟩) ∧ iv = .pointer (some ⟨I, 0, none⟩) ∧ ev = .pointer (some ⟨E, 0, none⟩) ∧ w5.heap.size ≤ R ∧ w5.heap.size ≤ I ∧ w5.heap.size ≤ E ∧ R ≠ I ∧ R ≠ E ∧ I ≠ E ∧ WBox wx R w5.heap.size 1 ∧ WBox wx I w5.heap.size 0 ∧ WBox wx E w5.heap.size 1 ∧ Below w5.heap.size w5 wx)
      case first =>
        clear HC HE HR hbf HW0 K5
        have hOf1 := fun (w' : World) => ref02_Of 1 w' (by omega) (by omega)
        have hOf0 := fun (w' : World) => ref02_Of 0 w' (by omega) (by omega)
        have hWv1 : True := trivial
        have hWv2 : True := trivial
        go_wp2_with (first | (go_at_call 206; (with_reducible refine (hOf1 w5).mono ?_); rintro e v1 ⟨u1, rfl, hW1, hC1⟩; obtain ⟨A1, c1, rfl⟩ := hW1.agg) | (go_at_call 206; (with_reducible refine (hOf0 v1).mono ?_); rintro e v2 ⟨u2, rfl, hW2, hC2⟩; obtain ⟨A2, c2, rfl⟩ := hW2.agg) | (go_at_call 206; (with_reducible refine (hOf1 v2).mono ?_); rintro e v3 ⟨u3, rfl, hW3, hC3⟩; obtain ⟨A3, c3, rfl⟩ := hW3.agg))
        have s1 := hC1.size
        have s2 := hC2.size
        have s3 := hC3.size
        go_meet
        case rel =>
          refine ⟨_, _, _, rfl, rfl, rfl, ?_, ?_, ?_, ?_, ?_, ?_, ?_, ?_, ?_, ?_⟩
          · omega
          · omega
          · omega
          · omega
          · omega
          · omega
          · refine WBox.mk (A := A1) (c := c1) ?_ ?_ ?_
            · (repeat (first | ((with_reducible refine TypedAt.new ?_); (first | with_reducible rfl | (simp only [World.size_alloc]; done))) | with_reducible refine TypedAt.setc ?_ _ _ _ | with_reducible refine TypedAt.alloc ?_ _ ))
            · first | (go_simp; done) | (simp [go_sem, *]; done)
            · refine ((hW1.below hC2).below hC3).kp ?_
              · (repeat (first | with_reducible exact Kp.refl _ | with_reducible refine Kp.alloc ?_ _ | with_reducible refine Kp.setc (T := 233) ?_ ?_ (by decide) | ((with_reducible refine TypedAt.new ?_); (first | with_reducible rfl | (simp only [World.size_setCell, World.size_alloc]; done))) | with_reducible refine TypedAt.setc ?_ _ _ _ | with_reducible refine TypedAt.alloc ?_ _ ))
          · refine WBox.mk (A := A2) (c := c2) ?_ ?_ ?_
            · (repeat (first | ((with_reducible refine TypedAt.new ?_); (first | with_reducible rfl | (simp only [World.size_alloc]; done))) | with_reducible refine TypedAt.setc ?_ _ _ _ | with_reducible refine TypedAt.alloc ?_ _ ))
            · first | (go_simp; done) | (simp [go_sem, *]; done)
            · refine ((hW2.below hC3).mono hC1.size).kp ?_
              · (repeat (first | with_reducible exact Kp.refl _ | with_reducible refine Kp.alloc ?_ _ | with_reducible refine Kp.setc (T := 233) ?_ ?_ (by decide) | ((with_reducible refine TypedAt.new ?_); (first | with_reducible rfl | (simp only [World.size_setCell, World.size_alloc]; done))) | with_reducible refine TypedAt.setc ?_ _ _ _ | with_reducible refine TypedAt.alloc ?_ _ ))
          · refine WBox.mk (A := A3) (c := c3) ?_ ?_ ?_
            · (repeat (first | ((with_reducible refine TypedAt.new ?_); (first | with_reducible rfl | (simp only [World.size_alloc]; done))) | with_reducible refine TypedAt.setc ?_ _ _ _ | with_reducible refine TypedAt.alloc ?_ _ ))
            · first | (go_simp; done) | (simp [go_sem, *]; done)
            · refine (hW3.mono (Nat.le_trans hC1.size hC2.size)).kp ?_
              · (repeat (first | with_reducible exact Kp.refl _ | with_reducible refine Kp.alloc ?_ _ | with_reducible refine Kp.setc (T := 233) ?_ ?_ (by decide) | ((with_reducible refine TypedAt.new ?_); (first | with_reducible rfl | (simp only [World.size_setCell, World.size_alloc]; done))) | with_reducible refine TypedAt.setc ?_ _ _ _ | with_reducible refine TypedAt.alloc ?_ _ ))
          · refine bel_step (bel_step hC1 hC2) ?_
            (repeat (first | with_reducible exact hC3 | with_reducible refine bel_alloc ?_ _ | with_reducible refine bel_set ?_ ?_ _ | omega))
      case rest =>
        obtain ⟨R, I, E, rfl, rfl, rfl, hRl, hIl, hEl, hRI, hRE, hIE, hbR, hbI, hbE, hB6⟩ := hcut
        have hs6 := hB6.size
        have hRl2 := hbR.lt
        have hIl2 := hbI.lt
        have hEl2 := hbE.lt
        have K6 := Lib.hid (show PS2 w f n P H D R I E 1 0 1 wc from ⟨K5.out.below hB6, hbR.mono (by omega), hbI.mono (by omega), hbE.mono (by omega)⟩)
        have NE := Lib.hid (And.intro hRI (And.intro hRE hIE))
        clear K5 hbR hbI hbE hB6 hRI hRE hIE
        rename World => w6
        go_wp2_with fail
        go_loopg [13] (2 * t) (fun g iv wr => ∃ k : Nat, iv = .int .i64 k ∧ k + g = 2 * t ∧ PS2 w f n P H D R I E (zpw f n k).1 (zpw f n k).2 ((rotD f n ^ ((k + 1) / 2) : Nat) : Int) wr)
        case atStart => exact ⟨0, rfl, by omega, K6.out⟩
        case round =>
          obtain ⟨k, rfl, hk, hK⟩ := hrel
          obtain ⟨x, hx⟩ : ∃ x, (zpw f n k).1 = x := ⟨_, rfl⟩
          obtain ⟨y, hy⟩ : ∃ x, (zpw f n k).2 = x := ⟨_, rfl⟩
          obtain ⟨d, hd⟩ : ∃ x : Nat, rotD f n ^ ((k + 1) / 2) = x := ⟨_, rfl⟩
          rw [hx, hy, hd] at hK
          have hwx := (zpw_wl ef en (k := k) (by omega)).1
          have hwy := (zpw_wl ef en (k := k) (by omega)).2
          have hwd := rotD_wl (rotD_bd b1 b2 b3 b4).2 (k := (k + 1) / 2) (by omega)
          rw [hx] at hwx
          rw [hy] at hwy
          rw [hd] at hwd
          have KK := Lib.hid hK
          have HZ := Lib.hid (And.intro hx (And.intro hy hd))
          clear hK K6 hx hy hd
          have b5 := KK.out.1.2.2.2.2.size
          have b6 := KK.out.2.1.lt
          have b7 := KK.out.2.2.1.lt
          have b8 := KK.out.2.2.2.lt
          have b9 := KK.out.1.lt
          have b10 := KK.out.1.1.lt
          have b11 := KK.out.1.2.1.lt
          by_cases hkt : k < 2 * t
          · go_upto_region 15 with fail
            go_cut [14] from 53 to 80 (fun xv wx => ∃ X : Nat, xv = .pointer (some ⟨X, 0, none⟩) ∧ wr.heap.size ≤ X ∧ WBox wx X wr.heap.size (x * f - y * n) ∧ Below wr.heap.size wr wx)
            case first =>
              clear HC HE HR hbf HW0 HB1
              obtain ⟨pA, pc, p01, hRp⟩ := KK.out.1.1.get
              obtain ⟨hA, hc, h01, hRh⟩ := KK.out.1.2.1.get
              obtain ⟨rA, rc, r01, hRr⟩ := KK.out.2.1.get
              obtain ⟨iA, ic, i01, hRi⟩ := KK.out.2.2.1.get
              have tP := KK.out.1.1.1
              have tH := KK.out.1.2.1.1
              have tR := KK.out.2.1.1
              have tI := KK.out.2.2.1.1
              have hS : ∀ w', Below wr.heap.size wr w' → ((w'.cell? ⟨P, 0, none⟩ = some (.bool (decide (f < 0))) ∧ w'.cell? ⟨P, 1, none⟩ = some (.slice pA (wl f.natAbs) pc)) ∧ (w'.cell? ⟨H, 0, none⟩ = some (.bool (decide (n < 0))) ∧ w'.cell? ⟨H, 1, none⟩ = some (.slice hA (wl n.natAbs) hc)) ∧ (w'.cell? ⟨R, 0, none⟩ = some (.bool (decide (x < 0))) ∧ w'.cell? ⟨R, 1, none⟩ = some (.slice rA (wl x.natAbs) rc)) ∧ (w'.cell? ⟨I, 0, none⟩ = some (.bool (decide (y < 0))) ∧ w'.cell? ⟨I, 1, none⟩ = some (.slice iA (wl y.natAbs) ic))) := fun w' h => ⟨cells2_below h tP p01, cells2_below h tH h01, cells2_below h tR r01, cells2_below h tI i01⟩
              have lf : wl f.natAbs ≤ 50000 := wl_small (by omega)
              have ln : wl n.natAbs ≤ 50000 := wl_small (by omega)
              have lx : wl x.natAbs ≤ 50000 := Nat.le_trans hwx (by decide)
              have ly : wl y.natAbs ≤ 50000 := Nat.le_trans hwy (by decide)
              have lxf : wl (x * f).natAbs ≤ 50000 := wl_prod hwx ef
              have lyn : wl (y * n).natAbs ≤ 50000 := wl_prod hwy en
              have hP1 := fun (w' : World) (h : Below wr.heap.size wr w') => ref02_Product w' (hRr.below h) (hRp.below h) lx lf
              have hP2 := fun (w' : World) (h : Below wr.heap.size wr w') => ref02_Product w' (hRi.below h) (hRh.below h) ly ln
              have hBv1 : True := trivial
              have hBv2 : True := trivial
              have hBv3 : True := trivial
              have qav1 : True := trivial
              have qav2 : True := trivial
              have qav3 : True := trivial
              have qbv2 : True := trivial
              have qbv3 : True := trivial
              have qcv3 : True := trivial
              have tqav1 : True := trivial
              have tqav2 : True := trivial
              have tqav3 : True := trivial
              have tqbv2 : True := trivial
              have tqbv3 : True := trivial
              have tqcv3 : True := trivial
              go_region_held3 (fun w' => ((w'.cell? ⟨P, 0, none⟩ = some (.bool (decide (f < 0))) ∧ w'.cell? ⟨P, 1, none⟩ = some (.slice pA (wl f.natAbs) pc)) ∧ (w'.cell? ⟨H, 0, none⟩ = some (.bool (decide (n < 0))) ∧ w'.cell? ⟨H, 1, none⟩ = some (.slice hA (wl n.natAbs) hc)) ∧ (w'.cell? ⟨R, 0, none⟩ = some (.bool (decide (x < 0))) ∧ w'.cell? ⟨R, 1, none⟩ = some (.slice rA (wl x.natAbs) rc)) ∧ (w'.cell? ⟨I, 0, none⟩ = some (.bool (decide (y < 0))) ∧ w'.cell? ⟨I, 1, none⟩ = some (.slice iA (wl y.natAbs) ic))))
                (exact hS _ (by (repeat (first | with_reducible exact Below.refl _ _ | with_reducible exact hBv3 | with_reducible exact hBv2 | with_reducible exact hBv1 | with_reducible refine bel_drew ?_ | with_reducible refine bel_alloc ?_ _ | with_reducible refine bel_set ?_ ?_ _ | omega))))
                (first
                  | (go_at_call 209; (with_reducible refine (hP1 _ ?_).mono ?_); (focus ((repeat (first | with_reducible exact Below.refl _ _ | with_reducible refine bel_drew ?_ | with_reducible refine bel_alloc ?_ _)); done)); rintro e v1 ⟨uv1, rfl, hWv1, hCv1⟩; have hzv1 := hCv1.size; (try simp at hzv1); (refine imp_use (P := Below wr.heap.size wr v1) ?_ ?_; (focus (refine bel_step ?_ hCv1; (repeat (first | with_reducible exact Below.refl _ _ | with_reducible refine bel_drew ?_ | with_reducible refine bel_alloc ?_ _)); done)); intro hBv1); have hyv1 := hBv1.size; obtain ⟨Av1, cv1, rfl⟩ := hWv1.agg; (try (refine imp_use (P := v1.heap[wr.heap.size]? = some (.cells #[.bool false, .slice none 0 0] 233 (0, 0))) ?_ ?_; (focus (refine blk_below2 hCv1 ?_; (repeat (first | with_reducible exact heap_new _ rfl | ((with_reducible refine heap_new _ ?_); simp; done) | with_reducible refine alloc_keep ?_ _)); done)); intro qav1; have tqav1 : TypedAt v1 (wr.heap.size) 233 := TypedAt.of qav1; obtain ⟨qav10, qav11, qav12, qav13⟩ := cell2 qav1; have qav1l := heap_lt qav1)))
                  | (go_at_call 209; (with_reducible refine (hP2 _ ?_).mono ?_); (focus ((repeat (first | with_reducible exact Below.refl _ _ | with_reducible exact hBv1 | with_reducible refine bel_drew ?_ | with_reducible refine bel_alloc ?_ _)); done)); rintro e v2 ⟨uv2, rfl, hWv2, hCv2⟩; have hzv2 := hCv2.size; (try simp at hzv2); (refine imp_use (P := Below wr.heap.size wr v2) ?_ ?_; (focus (refine bel_step ?_ hCv2; (repeat (first | with_reducible exact Below.refl _ _ | with_reducible exact hBv1 | with_reducible refine bel_drew ?_ | with_reducible refine bel_alloc ?_ _)); done)); intro hBv2); have hyv2 := hBv2.size; (refine imp_use (P := Below v1.heap.size v1 v2) ?_ ?_; (focus (refine bel_step ?_ hCv2; (repeat (first | with_reducible exact Below.refl _ _ | with_reducible refine bel_drew ?_ | with_reducible refine bel_alloc ?_ _)); done)); intro hB12); obtain ⟨Av2, cv2, rfl⟩ := hWv2.agg; (try (refine imp_use (P := v2.heap[wr.heap.size]? = some (.cells #[.bool false, .slice none 0 0] 233 (0, 0))) ?_ ?_; (focus (refine blk_below hCv2 ?_; (repeat (first | with_reducible exact heap_new _ rfl | ((with_reducible refine heap_new _ ?_); simp; done) | with_reducible refine alloc_keep ?_ _ | with_reducible exact qav1)); done)); intro qav2; have tqav2 : TypedAt v2 (wr.heap.size) 233 := TypedAt.of qav2; obtain ⟨qav20, qav21, qav22, qav23⟩ := cell2 qav2; have qav2l := heap_lt qav2)); (try (refine imp_use (P := v2.heap[v1.heap.size]? = some (.cells #[.bool false, .slice none 0 0] 233 (0, 0))) ?_ ?_; (focus (refine blk_below hCv2 ?_; (repeat (first | with_reducible exact heap_new _ rfl | ((with_reducible refine heap_new _ ?_); simp; done) | with_reducible refine alloc_keep ?_ _)); done)); intro qbv2; have tqbv2 : TypedAt v2 (v1.heap.size) 233 := TypedAt.of qbv2; obtain ⟨qbv20, qbv21, qbv22, qbv23⟩ := cell2 qbv2; have qbv2l := heap_lt qbv2)))
                  | (go_at_call 210; (with_reducible refine (ref02_Less _ (WhR.below (WhO.rd (WhO.below hWv1 hB12)) ?_) (WhR.below (WhO.rd hWv2) ?_) (by assumption) (by assumption)).mono ?_); (focus ((repeat (first | with_reducible exact Below.refl _ _ | with_reducible refine bel_drew ?_ | with_reducible refine bel_alloc ?_ _)); done)); (focus ((repeat (first | with_reducible exact Below.refl _ _ | with_reducible refine bel_drew ?_ | with_reducible refine bel_alloc ?_ _)); done)); rintro e v3 ⟨uv3, rfl, hWv3, hCv3⟩; have hzv3 := hCv3.size; (try simp at hzv3); (refine imp_use (P := Below wr.heap.size wr v3) ?_ ?_; (focus (refine bel_step ?_ hCv3; (repeat (first | with_reducible exact Below.refl _ _ | with_reducible exact hBv2 | with_reducible exact hBv1 | with_reducible refine bel_drew ?_ | with_reducible refine bel_alloc ?_ _)); done)); intro hBv3); have hyv3 := hBv3.size; obtain ⟨Av3, cv3, rfl⟩ := hWv3.agg; (try (refine imp_use (P := v3.heap[wr.heap.size]? = some (.cells #[.bool false, .slice none 0 0] 233 (0, 0))) ?_ ?_; (focus (refine blk_below hCv3 ?_; (repeat (first | with_reducible exact heap_new _ rfl | ((with_reducible refine heap_new _ ?_); simp; done) | with_reducible refine alloc_keep ?_ _ | with_reducible exact qav1 | with_reducible exact qav2)); done)); intro qav3; have tqav3 : TypedAt v3 (wr.heap.size) 233 := TypedAt.of qav3; obtain ⟨qav30, qav31, qav32, qav33⟩ := cell2 qav3; have qav3l := heap_lt qav3)); (try (refine imp_use (P := v3.heap[v1.heap.size]? = some (.cells #[.bool false, .slice none 0 0] 233 (0, 0))) ?_ ?_; (focus (refine blk_below hCv3 ?_; (repeat (first | with_reducible exact heap_new _ rfl | ((with_reducible refine heap_new _ ?_); simp; done) | with_reducible refine alloc_keep ?_ _ | with_reducible exact qbv2)); done)); intro qbv3; have tqbv3 : TypedAt v3 (v1.heap.size) 233 := TypedAt.of qbv3; obtain ⟨qbv30, qbv31, qbv32, qbv33⟩ := cell2 qbv3; have qbv3l := heap_lt qbv3)); (try (refine imp_use (P := v3.heap[v2.heap.size]? = some (.cells #[.bool false, .slice none 0 0] 233 (0, 0))) ?_ ?_; (focus (refine blk_below hCv3 ?_; (repeat (first | with_reducible exact heap_new _ rfl | ((with_reducible refine heap_new _ ?_); simp; done) | with_reducible refine alloc_keep ?_ _)); done)); intro qcv3; have tqcv3 : TypedAt v3 (v2.heap.size) 233 := TypedAt.of qcv3; obtain ⟨qcv30, qcv31, qcv32, qcv33⟩ := cell2 qcv3; have qcv3l := heap_lt qcv3))))
              all_goals
                go_wp2_with fail
                go_meet
                case rel =>
                  refine ⟨_, rfl, ?_, ?_, ?_⟩
                  · omega
                  · refine WBox.mk (z := (x * f - y * n)) (A := Av3) (c := cv3) ?_ ?_ ?_
                    · (repeat (first | ((with_reducible refine TypedAt.new ?_); (first | with_reducible rfl | (simp only [World.size_setCell, World.size_alloc]; done))) | with_reducible refine TypedAt.setc ?_ _ _ _ | with_reducible refine TypedAt.alloc ?_ _ | with_reducible exact tqav3 | with_reducible exact tqbv3 | with_reducible exact tqcv3 ))
                    · first | (go_simp; done) | (simp [go_sem, *]; done)
                    · refine (hWv3.kp ?_).mono ?_
                      · (repeat (first | with_reducible exact Kp.refl _ | with_reducible refine Kp.alloc ?_ _ | with_reducible refine Kp.setc (T := 233) ?_ ?_ (by decide) | ((with_reducible refine TypedAt.new ?_); (first | with_reducible rfl | (simp only [World.size_setCell, World.size_alloc]; done))) | with_reducible refine TypedAt.setc ?_ _ _ _ | with_reducible refine TypedAt.alloc ?_ _ | with_reducible exact tqav3 | with_reducible exact tqbv3 | with_reducible exact tqcv3 ))
                      · first | omega | (simp only [World.size_alloc]; omega)
                  · (repeat (first | with_reducible exact hBv3 | with_reducible refine bel_alloc ?_ _ | with_reducible refine bel_set ?_ ?_ _ | omega))
            case rest =>
              obtain ⟨X, rfl, hXl, hbX, hBX⟩ := hcut
              rename World => wa
              have hsX := hBX.size
              have hXl2 := hbX.lt
              have KA := Lib.hid (KK.out.below hBX)
              have HBX := Lib.hid hbX
              clear KK hbX hBX
              go_upto_region 16 with fail
              go_cut [15] from 53 to 80 (fun xv wx => ∃ Y : Nat, xv = .pointer (some ⟨Y, 0, none⟩) ∧ wa.heap.size ≤ Y ∧ WBox wx Y wa.heap.size (x * n + y * f) ∧ Below wa.heap.size wa wx)
              case first =>
                clear HC HE HR hbf HW0 HB1
                obtain ⟨pA, pc, p01, hRp⟩ := KA.out.1.1.get
                obtain ⟨hA, hc, h01, hRh⟩ := KA.out.1.2.1.get
                obtain ⟨rA, rc, r01, hRr⟩ := KA.out.2.1.get
                obtain ⟨iA, ic, i01, hRi⟩ := KA.out.2.2.1.get
                have tP := KA.out.1.1.1
                have tH := KA.out.1.2.1.1
                have tR := KA.out.2.1.1
                have tI := KA.out.2.2.1.1
                have hS : ∀ w', Below wa.heap.size wa w' → ((w'.cell? ⟨P, 0, none⟩ = some (.bool (decide (f < 0))) ∧ w'.cell? ⟨P, 1, none⟩ = some (.slice pA (wl f.natAbs) pc)) ∧ (w'.cell? ⟨H, 0, none⟩ = some (.bool (decide (n < 0))) ∧ w'.cell? ⟨H, 1, none⟩ = some (.slice hA (wl n.natAbs) hc)) ∧ (w'.cell? ⟨R, 0, none⟩ = some (.bool (decide (x < 0))) ∧ w'.cell? ⟨R, 1, none⟩ = some (.slice rA (wl x.natAbs) rc)) ∧ (w'.cell? ⟨I, 0, none⟩ = some (.bool (decide (y < 0))) ∧ w'.cell? ⟨I, 1, none⟩ = some (.slice iA (wl y.natAbs) ic))) := fun w' h => ⟨cells2_below h tP p01, cells2_below h tH h01, cells2_below h tR r01, cells2_below h tI i01⟩
                have lf : wl f.natAbs ≤ 50000 := wl_small (by omega)
                have ln : wl n.natAbs ≤ 50000 := wl_small (by omega)
                have lx : wl x.natAbs ≤ 50000 := Nat.le_trans hwx (by decide)
                have ly : wl y.natAbs ≤ 50000 := Nat.le_trans hwy (by decide)
                have lxn : wl (x * n).natAbs ≤ 50000 := wl_prod hwx en
                have lyf : wl (y * f).natAbs ≤ 50000 := wl_prod hwy ef
                have hP1 := fun (w' : World) (h : Below wa.heap.size wa w') => ref02_Product w' (hRr.below h) (hRh.below h) lx ln
                have hP2 := fun (w' : World) (h : Below wa.heap.size wa w') => ref02_Product w' (hRi.below h) (hRp.below h) ly lf
                have hBv1 : True := trivial
                have hBv2 : True := trivial
                have hBv3 : True := trivial
                have qav1 : True := trivial
                have qav2 : True := trivial
                have qav3 : True := trivial
                have qbv2 : True := trivial
                have qbv3 : True := trivial
                have qcv3 : True := trivial
                have tqav1 : True := trivial
                have tqav2 : True := trivial
                have tqav3 : True := trivial
                have tqbv2 : True := trivial
                have tqbv3 : True := trivial
                have tqcv3 : True := trivial
                go_region_held3 (fun w' => ((w'.cell? ⟨P, 0, none⟩ = some (.bool (decide (f < 0))) ∧ w'.cell? ⟨P, 1, none⟩ = some (.slice pA (wl f.natAbs) pc)) ∧ (w'.cell? ⟨H, 0, none⟩ = some (.bool (decide (n < 0))) ∧ w'.cell? ⟨H, 1, none⟩ = some (.slice hA (wl n.natAbs) hc)) ∧ (w'.cell? ⟨R, 0, none⟩ = some (.bool (decide (x < 0))) ∧ w'.cell? ⟨R, 1, none⟩ = some (.slice rA (wl x.natAbs) rc)) ∧ (w'.cell? ⟨I, 0, none⟩ = some (.bool (decide (y < 0))) ∧ w'.cell? ⟨I, 1, none⟩ = some (.slice iA (wl y.natAbs) ic))))
                  (exact hS _ (by (repeat (first | with_reducible exact Below.refl _ _ | with_reducible exact hBv3 | with_reducible exact hBv2 | with_reducible exact hBv1 | with_reducible refine bel_drew ?_ | with_reducible refine bel_alloc ?_ _ | with_reducible refine bel_set ?_ ?_ _ | omega))))
                  (first
                    | (go_at_call 209; (with_reducible refine (hP1 _ ?_).mono ?_); (focus ((repeat (first | with_reducible exact Below.refl _ _ | with_reducible refine bel_drew ?_ | with_reducible refine bel_alloc ?_ _)); done)); rintro e v1 ⟨uv1, rfl, hWv1, hCv1⟩; have hzv1 := hCv1.size; (try simp at hzv1); (refine imp_use (P := Below wa.heap.size wa v1) ?_ ?_; (focus (refine bel_step ?_ hCv1; (repeat (first | with_reducible exact Below.refl _ _ | with_reducible refine bel_drew ?_ | with_reducible refine bel_alloc ?_ _)); done)); intro hBv1); have hyv1 := hBv1.size; obtain ⟨Av1, cv1, rfl⟩ := hWv1.agg; (try (refine imp_use (P := v1.heap[wa.heap.size]? = some (.cells #[.bool false, .slice none 0 0] 233 (0, 0))) ?_ ?_; (focus (refine blk_below2 hCv1 ?_; (repeat (first | with_reducible exact heap_new _ rfl | ((with_reducible refine heap_new _ ?_); simp; done) | with_reducible refine alloc_keep ?_ _)); done)); intro qav1; have tqav1 : TypedAt v1 (wa.heap.size) 233 := TypedAt.of qav1; obtain ⟨qav10, qav11, qav12, qav13⟩ := cell2 qav1; have qav1l := heap_lt qav1)))
                    | (go_at_call 209; (with_reducible refine (hP2 _ ?_).mono ?_); (focus ((repeat (first | with_reducible exact Below.refl _ _ | with_reducible exact hBv1 | with_reducible refine bel_drew ?_ | with_reducible refine bel_alloc ?_ _)); done)); rintro e v2 ⟨uv2, rfl, hWv2, hCv2⟩; have hzv2 := hCv2.size; (try simp at hzv2); (refine imp_use (P := Below wa.heap.size wa v2) ?_ ?_; (focus (refine bel_step ?_ hCv2; (repeat (first | with_reducible exact Below.refl _ _ | with_reducible exact hBv1 | with_reducible refine bel_drew ?_ | with_reducible refine bel_alloc ?_ _)); done)); intro hBv2); have hyv2 := hBv2.size; (refine imp_use (P := Below v1.heap.size v1 v2) ?_ ?_; (focus (refine bel_step ?_ hCv2; (repeat (first | with_reducible exact Below.refl _ _ | with_reducible refine bel_drew ?_ | with_reducible refine bel_alloc ?_ _)); done)); intro hB12); obtain ⟨Av2, cv2, rfl⟩ := hWv2.agg; (try (refine imp_use (P := v2.heap[wa.heap.size]? = some (.cells #[.bool false, .slice none 0 0] 233 (0, 0))) ?_ ?_; (focus (refine blk_below hCv2 ?_; (repeat (first | with_reducible exact heap_new _ rfl | ((with_reducible refine heap_new _ ?_); simp; done) | with_reducible refine alloc_keep ?_ _ | with_reducible exact qav1)); done)); intro qav2; have tqav2 : TypedAt v2 (wa.heap.size) 233 := TypedAt.of qav2; obtain ⟨qav20, qav21, qav22, qav23⟩ := cell2 qav2; have qav2l := heap_lt qav2)); (try (refine imp_use (P := v2.heap[v1.heap.size]? = some (.cells #[.bool false, .slice none 0 0] 233 (0, 0))) ?_ ?_; (focus (refine blk_below hCv2 ?_; (repeat (first | with_reducible exact heap_new _ rfl | ((with_reducible refine heap_new _ ?_); simp; done) | with_reducible refine alloc_keep ?_ _)); done)); intro qbv2; have tqbv2 : TypedAt v2 (v1.heap.size) 233 := TypedAt.of qbv2; obtain ⟨qbv20, qbv21, qbv22, qbv23⟩ := cell2 qbv2; have qbv2l := heap_lt qbv2)))
                    | (go_at_call 208; (with_reducible refine (ref02_Plus _ (WhR.below (WhO.rd (WhO.below hWv1 hB12)) ?_) (WhR.below (WhO.rd hWv2) ?_) (by assumption) (by assumption)).mono ?_); (focus ((repeat (first | with_reducible exact Below.refl _ _ | with_reducible refine bel_drew ?_ | with_reducible refine bel_alloc ?_ _)); done)); (focus ((repeat (first | with_reducible exact Below.refl _ _ | with_reducible refine bel_drew ?_ | with_reducible refine bel_alloc ?_ _)); done)); rintro e v3 ⟨uv3, rfl, hWv3, hCv3⟩; have hzv3 := hCv3.size; (try simp at hzv3); (refine imp_use (P := Below wa.heap.size wa v3) ?_ ?_; (focus (refine bel_step ?_ hCv3; (repeat (first | with_reducible exact Below.refl _ _ | with_reducible exact hBv2 | with_reducible exact hBv1 | with_reducible refine bel_drew ?_ | with_reducible refine bel_alloc ?_ _)); done)); intro hBv3); have hyv3 := hBv3.size; obtain ⟨Av3, cv3, rfl⟩ := hWv3.agg; (try (refine imp_use (P := v3.heap[wa.heap.size]? = some (.cells #[.bool false, .slice none 0 0] 233 (0, 0))) ?_ ?_; (focus (refine blk_below hCv3 ?_; (repeat (first | with_reducible exact heap_new _ rfl | ((with_reducible refine heap_new _ ?_); simp; done) | with_reducible refine alloc_keep ?_ _ | with_reducible exact qav1 | with_reducible exact qav2)); done)); intro qav3; have tqav3 : TypedAt v3 (wa.heap.size) 233 := TypedAt.of qav3; obtain ⟨qav30, qav31, qav32, qav33⟩ := cell2 qav3; have qav3l := heap_lt qav3)); (try (refine imp_use (P := v3.heap[v1.heap.size]? = some (.cells #[.bool false, .slice none 0 0] 233 (0, 0))) ?_ ?_; (focus (refine blk_below hCv3 ?_; (repeat (first | with_reducible exact heap_new _ rfl | ((with_reducible refine heap_new _ ?_); simp; done) | with_reducible refine alloc_keep ?_ _ | with_reducible exact qbv2)); done)); intro qbv3; have tqbv3 : TypedAt v3 (v1.heap.size) 233 := TypedAt.of qbv3; obtain ⟨qbv30, qbv31, qbv32, qbv33⟩ := cell2 qbv3; have qbv3l := heap_lt qbv3)); (try (refine imp_use (P := v3.heap[v2.heap.size]? = some (.cells #[.bool false, .slice none 0 0] 233 (0, 0))) ?_ ?_; (focus (refine blk_below hCv3 ?_; (repeat (first | with_reducible exact heap_new _ rfl | ((with_reducible refine heap_new _ ?_); simp; done) | with_reducible refine alloc_keep ?_ _)); done)); intro qcv3; have tqcv3 : TypedAt v3 (v2.heap.size) 233 := TypedAt.of qcv3; obtain ⟨qcv30, qcv31, qcv32, qcv33⟩ := cell2 qcv3; have qcv3l := heap_lt qcv3))))
                all_goals
                  go_wp2_with fail
                  go_meet
                  case rel =>
                    refine ⟨_, rfl, ?_, ?_, ?_⟩
                    · omega
                    · refine WBox.mk (z := (x * n + y * f)) (A := Av3) (c := cv3) ?_ ?_ ?_
                      · (repeat (first | ((with_reducible refine TypedAt.new ?_); (first | with_reducible rfl | (simp only [World.size_setCell, World.size_alloc]; done))) | with_reducible refine TypedAt.setc ?_ _ _ _ | with_reducible refine TypedAt.alloc ?_ _ | with_reducible exact tqav3 | with_reducible exact tqbv3 | with_reducible exact tqcv3 ))
                      · first | (go_simp; done) | (simp [go_sem, *]; done)
                      · refine (hWv3.kp ?_).mono ?_
                        · (repeat (first | with_reducible exact Kp.refl _ | with_reducible refine Kp.alloc ?_ _ | with_reducible refine Kp.setc (T := 233) ?_ ?_ (by decide) | ((with_reducible refine TypedAt.new ?_); (first | with_reducible rfl | (simp only [World.size_setCell, World.size_alloc]; done))) | with_reducible refine TypedAt.setc ?_ _ _ _ | with_reducible refine TypedAt.alloc ?_ _ | with_reducible exact tqav3 | with_reducible exact tqbv3 | with_reducible exact tqcv3 ))
                        · first | omega | (simp only [World.size_alloc]; omega)
                    · (repeat (first | with_reducible exact hBv3 | with_reducible refine bel_alloc ?_ _ | with_reducible refine bel_set ?_ ?_ _ | omega))
              case rest =>
                obtain ⟨Y, rfl, hYl, hbY, hBY⟩ := hcut
                rename World => wb
                have hsY := hBY.size
                have hYl2 := hbY.lt
                have KB := Lib.hid (KA.out.below hBY)
                have HBY := Lib.hid hbY
                have HBX2 := Lib.hid (HBX.out.below hBY)
                clear KA hbY hBY HBX
                go_upto_region 17 with fail
                go_cut [] from 53 to 80 (fun wx => PS2 w f n P H D R I E (x * f - y * n) (x * n + y * f) d wx)
                case first =>
                  clear HC HE HR hbf HW0 HB1
                  have hbX := HBX2.out
                  have hbY := HBY.out
                  obtain ⟨tX, xA, xc, ⟨x0, x1⟩, hWX⟩ := hbX
                  obtain ⟨tY, yA, yc, ⟨y0, y1⟩, hWY⟩ := hbY
                  have tR := KB.out.2.1.1
                  have tI := KB.out.2.2.1.1
                  obtain ⟨rA, rc, ⟨r0, r1⟩, _⟩ := KB.out.2.1.get
                  obtain ⟨iA, ic, ⟨i0, i1⟩, _⟩ := KB.out.2.2.1.get
                  have r2 := typed_free tR 0
                  have r3 := typed_free tR 1
                  have i2 := typed_free tI 0
                  have i3 := typed_free tI 1
                  have n1 : (X = R) = False := by simp only [eq_iff_iff, iff_false]; omega
                  have n2 : (R = X) = False := by simp only [eq_iff_iff, iff_false]; omega
                  have n3 : (X = I) = False := by simp only [eq_iff_iff, iff_false]; omega
                  have n4 : (I = X) = False := by simp only [eq_iff_iff, iff_false]; omega
                  have n5 : (Y = R) = False := by simp only [eq_iff_iff, iff_false]; omega
                  have n6 : (R = Y) = False := by simp only [eq_iff_iff, iff_false]; omega
                  have n7 : (Y = I) = False := by simp only [eq_iff_iff, iff_false]; omega
                  have n8 : (I = Y) = False := by simp only [eq_iff_iff, iff_false]; omega
                  have n9 : (R = I) = False := by simp only [eq_iff_iff, iff_false]; exact NE.out.1
                  have n10 : (I = R) = False := by simp only [eq_iff_iff, iff_false]; exact fun e => NE.out.1 e.symm
                  go_region_held3 (fun w' => (w'.cell? ⟨X, 0, none⟩ = some (.bool (decide (x * f - y * n < 0))) ∧ w'.cell? ⟨X, 1, none⟩ = some (.slice xA (wl (x * f - y * n).natAbs) xc)) ∧ (w'.cell? ⟨Y, 0, none⟩ = some (.bool (decide (x * n + y * f < 0))) ∧ w'.cell? ⟨Y, 1, none⟩ = some (.slice yA (wl (x * n + y * f).natAbs) yc)))
                    (first | exact ⟨⟨x0, x1⟩, ⟨y0, y1⟩⟩ | (go_simp; done) | (simp [go_sem, *]; done))
                    (first | fail)
                  all_goals
                    go_wp2_with fail
                    go_meet
                    case rel =>
                      clear x0 x1 y0 y1 r0 r1 i0 i1
                      refine PS2.below ?_ (bel_drew (Below.refl _ _))
                      exact (KB.out.setR (hWX.mono (by omega)) (by omega) (by omega) (by omega) (by omega) NE.out.1 NE.out.2.1).setI ((hWY.mono (by omega)).kp (kp_set2 tR _ _)) (by omega) (by omega) (by omega) (by omega) NE.out.1 NE.out.2.2
                case rest =>
                  have KD := Lib.hid hcut
                  clear hcut KB HBY HBX2
                  rename World => wd
                  have q1 := KD.out.2.1.lt
                  have q2 := KD.out.2.2.1.lt
                  have q3 := KD.out.2.2.2.lt
                  have q4 := KD.out.1.lt
                  have hz1 : (zpw f n (k + 1)).1 = x * f - y * n := by show (zpw f n k).1 * f - (zpw f n k).2 * n = _; rw [HZ.out.1, HZ.out.2.1]
                  have hz2 : (zpw f n (k + 1)).2 = x * n + y * f := by show (zpw f n k).1 * n + (zpw f n k).2 * f = _; rw [HZ.out.1, HZ.out.2.1]
                  have HZ2 := Lib.hid (And.intro hz1 hz2)
                  clear hz1 hz2
                  by_cases hev : k % 2 = 0
                  · have em : (k : Int).tmod 2 = 0 := by rw [Int.tmod_eq_emod_of_nonneg (by omega)]; omega
                    have hde : rotD f n ^ ((k + 1 + 1) / 2) = d * rotD f n := by
                      rw [← HZ.out.2.2, ← Nat.pow_succ]; congr 1; omega
                    have HDE := Lib.hid hde
                    have HEV := Lib.hid hev
                    obtain ⟨tE, eA, ec, ⟨e0, e00⟩, hWE⟩ := KD.out.2.2.2
                    obtain ⟨dA, dc, ⟨d0, d1⟩, hRD⟩ := KD.out.1.2.2.1.get
                    have hlD : wl ((rotD f n : Nat) : Int).natAbs ≤ 50000 := wl_small (Nat.le_trans (rotD_bd b1 b2 b3 b4).2 (by decide))
                    have hlE : wl ((d : Nat) : Int).natAbs ≤ 50000 := Nat.le_trans hwd (by decide)
                    clear hev hde
                    go_wp2_with fail
                    refine (ref02_Product wd hWE.rd hRD hlE hlD).mono ?_
                    rintro e5 we ⟨v5, rfl, hW5, hB5⟩
                    obtain ⟨z, hz⟩ : ∃ z : Int, (d : Int) * ((rotD f n : Nat) : Int) = z := ⟨_, rfl⟩
                    rw [hz] at hW5
                    have HZZ := Lib.hid hz
                    clear hz
                    obtain ⟨zA, zc, rfl⟩ := hW5.agg
                    have KE := Lib.hid (KD.out.below hB5)
                    have tE5 := tE.below hB5
                    obtain ⟨g0, g1⟩ := cells2_below hB5 tE ⟨e0, e00⟩
                    have g2 := typed_free tE5 0
                    have g3 := typed_free tE5 1
                    have hEl5 := typed_lt tE5
                    clear e0 e00 d0 d1
                    have hs5 := hB5.size
                    go_wp2_with fail
                    go_roundg (2 * t - (k + 1))
                    case measure => omega
                    case rel =>
                      refine ⟨k + 1, by simp, by omega, ?_⟩
                      rw [HZ2.out.1, HZ2.out.2, HDE.out, Int.natCast_mul, HZZ.out]
                      exact KE.out.setE (hW5.mono (by omega)) (by omega) (by omega) (by omega) (by omega) NE.out.2.1 NE.out.2.2
                  · have em : (k : Int).tmod 2 = 1 := by rw [Int.tmod_eq_emod_of_nonneg (by omega)]; omega
                    have hde : rotD f n ^ ((k + 1 + 1) / 2) = d := by
                      rw [← HZ.out.2.2]; congr 1; omega
                    have HDE := Lib.hid hde
                    clear hev hde
                    go_wp2_with fail
                    go_roundg (2 * t - (k + 1))
                    case measure => omega
                    case rel => exact ⟨k + 1, by simp, by omega, by rw [HZ2.out.1, HZ2.out.2, HDE.out]; exact KD.out⟩
          · have hkk : k = 2 * t := by omega
            subst hkk
            have hdt : d = rotD f n ^ t := by rw [← HZ.out.2.2]; congr 1; omega
            have HX1 : Hid (frac (decide (x < 0)) x.natAbs d = (cpw (rotZ f n) t).1) := by
              rw [← HZ.out.1, hdt]; exact (zpw_part (rotD_bd b1 b2 b3 b4).1 t).1
            have HX2 : Hid (frac (decide (y < 0)) y.natAbs d = (cpw (rotZ f n) t).2) := by
              rw [← HZ.out.2.1, hdt]; exact (zpw_part (rotD_bd b1 b2 b3 b4).1 t).2
            have hdp : 0 < d := by rw [hdt]; exact Nat.pow_pos (rotD_bd b1 b2 b3 b4).1
            clear hdt
            go_upto_region 20 with fail
            clear HC HE HR hbf HW0 HB1
            obtain ⟨rA, rc, r01, hRr⟩ := KK.out.2.1.get
            obtain ⟨iA, ic, i01, hRi⟩ := KK.out.2.2.1.get
            obtain ⟨eA, ec, e01, hRe⟩ := KK.out.2.2.2.get
            have tR := KK.out.2.1.1
            have tI := KK.out.2.2.1.1
            have tE := KK.out.2.2.2.1
            have hRd : Rd wr eA (wl d) ec (wds d) := hRe.words
            have hd0 : decide (((d : Nat) : Int) < 0) = false := by simp
            rw [hd0] at e01
            have e02 : wr.cell? ⟨E, 0, none⟩ = some (.bool false) ∧ wr.cell? ⟨E, 1, none⟩ = some (.slice eA (wl d) ec) := e01
            have hS : ∀ w', Below wr.heap.size wr w' → ((w'.cell? ⟨R, 0, none⟩ = some (.bool (decide (x < 0))) ∧ w'.cell? ⟨R, 1, none⟩ = some (.slice rA (wl x.natAbs) rc)) ∧ (w'.cell? ⟨I, 0, none⟩ = some (.bool (decide (y < 0))) ∧ w'.cell? ⟨I, 1, none⟩ = some (.slice iA (wl y.natAbs) ic)) ∧ (w'.cell? ⟨E, 0, none⟩ = some (.bool false) ∧ w'.cell? ⟨E, 1, none⟩ = some (.slice eA (wl d) ec))) := fun w' h => ⟨cells2_below h tR r01, cells2_below h tI i01, cells2_below h tE e02⟩
            have lx : wl x.natAbs ≤ 70000 := Nat.le_trans hwx (by decide)
            have ly : wl y.natAbs ≤ 70000 := Nat.le_trans hwy (by decide)
            have ld : wl d ≤ 70000 := Nat.le_trans hwd (by decide)
            have hP1 := fun (w' : World) (h : Below wr.heap.size wr w') => ref05_part w' (hRr.below h) (hRd.below h) lx ld hdp
            have hP2 := fun (w' : World) (h : Below wr.heap.size wr w') => ref05_part w' (hRi.below h) (hRd.below h) ly ld hdp
            have HP1 := Lib.hid hP1
            have HP2 := Lib.hid hP2
            clear hd0 e01 hP1 hP2
            have n1 : (R = w.heap.size + 1) = False := by simp only [eq_iff_iff, iff_false]; omega
            have n2 : (w.heap.size + 1 = R) = False := by simp only [eq_iff_iff, iff_false]; omega
            have n3 : (I = w.heap.size + 1) = False := by simp only [eq_iff_iff, iff_false]; omega
            have n4 : (w.heap.size + 1 = I) = False := by simp only [eq_iff_iff, iff_false]; omega
            have n5 : (E = w.heap.size + 1) = False := by simp only [eq_iff_iff, iff_false]; omega
            have n6 : (w.heap.size + 1 = E) = False := by simp only [eq_iff_iff, iff_false]; omega
            have hBv1 : True := trivial
            have hBv2 : True := trivial
            go_region_held3 (fun w' => (w'.cell? ⟨R, 0, none⟩ = some (.bool (decide (x < 0))) ∧ w'.cell? ⟨R, 1, none⟩ = some (.slice rA (wl x.natAbs) rc)) ∧ (w'.cell? ⟨I, 0, none⟩ = some (.bool (decide (y < 0))) ∧ w'.cell? ⟨I, 1, none⟩ = some (.slice iA (wl y.natAbs) ic)) ∧ (w'.cell? ⟨E, 0, none⟩ = some (.bool false) ∧ w'.cell? ⟨E, 1, none⟩ = some (.slice eA (wl d) ec)))
              (first | (refine hS _ ?_; (focus ((repeat (first | with_reducible exact Below.refl _ _ | with_reducible exact hBv2 | with_reducible exact hBv1 | with_reducible refine bel_drew ?_ | with_reducible refine bel_alloc ?_ _)); done))) | (go_simp; done) | (simp [go_sem, *]; done))
              (first
                | (go_at_call 211; (with_reducible refine (HP1.out _ ?_).mono ?_); (focus ((repeat (first | with_reducible exact Below.refl _ _ | with_reducible exact hBv1 | with_reducible refine bel_drew ?_ | with_reducible refine bel_alloc ?_ _)); done)); rintro e v1 ⟨u1, rfl, hR1, hC1⟩; (refine imp_use (P := Below wr.heap.size wr v1) ?_ ?_; (focus (refine bel_step ?_ hC1; (repeat (first | with_reducible exact Below.refl _ _ | with_reducible exact hBv1 | with_reducible refine bel_drew ?_ | with_reducible refine bel_alloc ?_ _)); done)); intro hBv1); obtain ⟨g1, A1, n1, c1, A1', n1', c1', rfl⟩ := hR1.agg)
                | (go_at_call 211; (with_reducible refine (HP2.out _ ?_).mono ?_); (focus ((repeat (first | with_reducible exact Below.refl _ _ | with_reducible exact hBv2 | with_reducible exact hBv1 | with_reducible refine bel_drew ?_ | with_reducible refine bel_alloc ?_ _)); done)); rintro e v2 ⟨u2, rfl, hR2, hC2⟩; (refine imp_use (P := Below wr.heap.size wr v2) ?_ ?_; (focus (refine bel_step ?_ hC2; (repeat (first | with_reducible exact Below.refl _ _ | with_reducible exact hBv2 | with_reducible exact hBv1 | with_reducible refine bel_drew ?_ | with_reducible refine bel_alloc ?_ _)); done)); intro hBv2); obtain ⟨g2, A2, n2, c2, A2', n2', c2', rfl⟩ := hR2.agg; have HRS := Lib.hid (blk_below hBv2 KK.out.1.2.2.2.1); obtain ⟨⟨z0, z1, z2⟩, z3, z4, z5⟩ := cell6 HRS.out; obtain ⟨zf0, zf1, zf2, zf3, zf4, zf5⟩ := free6 HRS.out; obtain ⟨⟨j0, j1⟩, ⟨j2, j3⟩, ⟨j4, j5⟩⟩ := hS v2 hBv2))
            all_goals
              clear j0 j1 j2 j3 j4 j5 r01 i01 e02 hS
              have hsv := hBv1.size
              have hsv2 := hC2.size
              have HG : Hid (GtO v2 (w.heap.size + 2) v2.heap.size (.agg #[.bool g1, .slice A1 n1 c1, .slice A1' n1' c1', .bool g2, .slice A2 n2 c2, .slice A2' n2' c2']) (cpw (rotZ f n) t).1 (cpw (rotZ f n) t).2) := by
                rw [HX1.out] at hR1
                rw [HX2.out] at hR2
                exact ⟨_, _, v1.heap.size, (gvV_flat _ _ _ _ _ _ _ _ _ _ _ _ _ _).symm, by omega, hC2.size, (hR1.below hC2).mono (by show _ ≤ wr.heap.size; omega) (Nat.le_refl _), hR2⟩
              clear hR1 hR2
              go_wp2_with fail
              exact bodyPost_ret (v := .tuple #[.agg #[.bool g1, .slice A1 n1 c1, .slice A1' n1' c1', .bool g2, .slice A2 n2 c2, .slice A2' n2' c2'], .int .i64 0]) (by simp [results, Tryz.results120, go_sem, z0, z1, z2, z3, z4, z5]) rfl ⟨_, rfl, (HG.out.kp (kp_set6 (TypedAt.of HRS.out) _ _ _ _ _ _)).mono (by omega) (Nat.le_of_eq set6_sz.symm), below_set6 (bel_step KK.out.1.2.2.2.2 hBv2) (by omega) _ _ _ _ _ _⟩
end Go.Proofs.YtcbkijeonilcjaaGreat
