/- The kit of the statements: lists of constituents that are lent. -/
import Derived.Test.YtcbkijeonilcjaaGreatHC43
namespace Go.Proofs.YtcbkijeonilcjaaGreat
open Go.RowKit

theorem tinfo0 : (Tryz.prog.info? 85).map (fun i => (i.zero.map (fun z => z.cells.size), i.size, i.bytes)) = some (some 9, 9, 136) := by kernel_rfl
theorem tinfo : ∃ (i : TypeInfo) (z : Value), Tryz.prog.info? 85 = some i ∧ i.zero = some z ∧ i.size = 9 ∧ i.bytes = 136 ∧ z.cells.size = 9 := by
  have h := tinfo0
  cases hi : Tryz.prog.info? 85 with
  | none => rw [hi] at h; cases h
  | some i =>
    rw [hi] at h
    simp only [Option.map_some, Option.some.injEq, Prod.mk.injEq] at h
    cases hz : i.zero with
    | none => rw [hz] at h; cases h.1
    | some z =>
      rw [hz] at h
      simp only [Option.map_some, Option.some.injEq] at h
      exact ⟨i, z, rfl, hz, h.2.1, h.2.2, h.1⟩
theorem block_new {w : World} {b : Nat} {cs : List Value} {T : TypeId} (h : w.heap[b]? = some (.cells cs.toArray T (0, 0))) : ∀ (j : Nat) (u : Value), cs[j]? = some u → w.cell? ((⟨b, 0, none⟩ : Addr).add j) = some u := by
  intro j u hu
  rw [add_off, Nat.zero_add]
  simp [World.cell?, h, hu]
theorem nine_one {x0 x1 x2 x3 x4 x5 x6 x7 x8 : Value} (h : x0.oneCell' = true ∧ x1.oneCell' = true ∧ x2.oneCell' = true ∧ x3.oneCell' = true ∧ x4.oneCell' = true ∧ x5.oneCell' = true ∧ x6.oneCell' = true ∧ x7.oneCell' = true ∧ x8.oneCell' = true) : ∀ u ∈ [x0, x1, x2, x3, x4, x5, x6, x7, x8], u.oneCell' = true := by
  obtain ⟨h0, h1, h2, h3, h4, h5, h6, h7, h8⟩ := h
  intro u hu
  simp only [List.mem_cons, List.not_mem_nil, or_false] at hu
  rcases hu with rfl | rfl | rfl | rfl | rfl | rfl | rfl | rfl | rfl <;> assumption
/-- the cells of a constituent that is lent -/
def ltCells (T : Td) (b1 d1 b1' d1' b2 d2 b2' d2' : Nat) : List Value := [.string T.nm, .int .i32 T.far, .int .i32 T.near, .bool T.g1, .slice (some ⟨b1, 0, none⟩) T.l1.length d1, .slice (some ⟨b1', 0, none⟩) T.l1'.length d1', .bool T.g2, .slice (some ⟨b2, 0, none⟩) T.l2.length d2, .slice (some ⟨b2', 0, none⟩) T.l2'.length d2']
def LtT (w : World) (T : Td) (xs : List Value) : Prop := ∃ b1 d1 b1' d1' b2 d2 b2' d2', xs = ltCells T b1 d1 b1' d1' b2 d2 b2' d2' ∧ Lt4 w b1 T.l1.length d1 b1' T.l1'.length d1' b2 T.l2.length d2 b2' T.l2'.length d2' T.l1 T.l1' T.l2 T.l2'
theorem LtT.below {w w1 : World} {T : Td} {xs : List Value} (h : LtT w T xs) (hb : Below w.heap.size w w1) : LtT w1 T xs := by
  obtain ⟨b1, d1, b1', d1', b2, d2, b2', d2', e, h1⟩ := h
  exact ⟨b1, d1, b1', d1', b2, d2, b2', d2', e, h1.below hb⟩
theorem LtW.blt {w : World} {b n c : Nat} {l : List Nat} (h : LtW w b n c l) : b < w.heap.size := h.rd.block (by omega)
theorem LtT.keep {w w1 : World} {T : Td} {xs : List Value} {cur : Array Value} {p : Nat} (h : LtT w T xs) (hp : w.heap[p]? = some (.cells cur 85 (0, 0)) ∨ w.heap.size ≤ p) (hk : ∀ b, b < w.heap.size → b ≠ p → w1.heap[b]? = w.heap[b]?) (hc : ∀ o u, w.cell? ⟨p, o, none⟩ = some u → o = 0 → isInt u = false) : LtT w1 T xs := by
  obtain ⟨b1, d1, b1', d1', b2, d2, b2', d2', e, h1⟩ := h
  have key : ∀ {b n c : Nat} {l : List Nat}, LtW w b n c l → LtW w1 b n c l := by
    intro b n c l hb
    refine hb.apart (hk b hb.blt ?_)
    rintro rfl
    obtain ⟨b', o', e', hcc⟩ := hb.rd.cell (by omega)
    cases e'
    have h0 := hcc 0 (by omega)
    have := hc 0 _ h0 rfl
    cases this
  exact ⟨b1, d1, b1', d1', b2, d2, b2', d2', e, key h1.a, key h1.b, key h1.c, key h1.d⟩
def bhCells : List Value := [.string behind, .int .i32 0, .int .i32 0, .bool false, .slice none 0 0, .slice none 0 0, .bool false, .slice none 0 0, .slice none 0 0]
theorem flat_get (yss : List (List Value)) (h : ∀ l ∈ yss, l.length = 9) (j r : Nat) (hj : j < yss.length) (hr : r < 9) : yss.flatten[j * 9 + r]? = yss[j][r]? := by
  induction yss generalizing j with
  | nil => simp at hj
  | cons y yss ih =>
    have hy := h y (by simp)
    rw [List.flatten_cons]
    cases j with
    | zero =>
      rw [List.getElem?_append_left (by omega)]
      simp
    | succ j =>
      rw [List.getElem?_append_right (by omega), hy, show (j + 1) * 9 + r - 9 = j * 9 + r from by omega]
      exact ih (fun l hl => h l (by simp [hl])) j (by simpa using hj)
theorem flat_len (yss : List (List Value)) (h : ∀ l ∈ yss, l.length = 9) : yss.flatten.length = yss.length * 9 := by
  induction yss with
  | nil => rfl
  | cons y yss ih => rw [List.flatten_cons, List.length_append, h y (by simp), ih (fun l hl => h l (by simp [hl])), List.length_cons]; omega
theorem row_cells {w : World} {base n : Nat} {v : Value} {yss : List (List Value)} {T : TypeId} (h : w.ownsRow base T 9 v n yss.flatten) (hl : ∀ l ∈ yss, l.length = 9) (hp : 0 < n) : ∃ b c, v = .slice (some ⟨b, 0, none⟩) n c ∧ base ≤ b ∧ yss.length = n ∧ (n ≤ c ∧ c ≤ maxLen) ∧ ∀ j (hj : j < yss.length) r, r < 9 → w.cell? ⟨b, j * 9 + r, none⟩ = yss[j][r]? := by
  have hlen : yss.length = n := by have := h.1; rw [flat_len _ hl] at this; omega
  rcases h.2 with ⟨rfl, h0⟩ | ⟨g, cap, cur, rfl, hg, hh, h1, h2, h3, h4⟩
  · omega
  · refine ⟨g, cap, rfl, hg, hlen, ⟨h1, h2⟩, fun j hj r hr => ?_⟩
    rw [← flat_get yss hl j r hj hr, ← h4, List.getElem?_take, if_pos (by omega)]
    simp [World.cell?, hh]
/-- a list of constituents that is lent -/
structure LtS (w : World) (b n c : Nat) (ts : List Td) : Prop where
  len : ts.length = n
  cap : n + 3 ≤ c ∧ c ≤ maxLen
  cell : ∀ j (h : j < ts.length), ∃ xs, LtT w ts[j] xs ∧ ∀ r, r < 9 → w.cell? ⟨b, j * 9 + r, none⟩ = xs[r]?
  tail : ∀ j, j < 3 → ∀ r, r < 9 → w.cell? ⟨b, (n + j) * 9 + r, none⟩ = bhCells[r]?
theorem ltCells_get {xs : List Value} (h : xs.length = 9) {w : World} {b o r : Nat} (hr : r < 9) (he : w.cell? ⟨b, o + r, none⟩ = xs[r]?) : w.cell? ⟨b, o + r, none⟩ = some (xs[r]'(by omega)) := by
  rw [he, List.getElem?_eq_getElem (by omega)]
theorem LtT.len {w : World} {T : Td} {xs : List Value} (h : LtT w T xs) : xs.length = 9 := by
  obtain ⟨b1, d1, b1', d1', b2, d2, b2', d2', rfl, _⟩ := h
  rfl
theorem LtS.below {w w1 : World} {b n c : Nat} {ts : List Td} (h : LtS w b n c ts) (hb : Below w.heap.size w w1) : LtS w1 b n c ts := by
  have k : ∀ {a v}, w.cell? a = some v → w1.cell? a = some v := fun {a v} e => by rw [hb.cell (World.block_lt_of_cell? w _ e)]; exact e
  refine ⟨h.len, h.cap, fun j hj => ?_, fun j hj r hr => ?_⟩
  · obtain ⟨xs, h1, h2⟩ := h.cell j hj
    refine ⟨xs, h1.below hb, fun r hr => ?_⟩
    have := ltCells_get h1.len hr (h2 r hr)
    rw [k this, List.getElem?_eq_getElem]
  · have := ltCells_get (xs := bhCells) rfl hr (h.tail j hj r hr)
    rw [k this, List.getElem?_eq_getElem]
/-- its first part reads as the list that was lent -/
theorem LtS.tsr {w : World} {b n c : Nat} {ts : List Td} (h : LtS w b n c ts) (hr : ∀ T ∈ ts, T.nm.size ≤ maxLen ∧ T.far.natAbs ≤ 2147483648 ∧ T.near.natAbs ≤ 2147483648) (hn : n ≤ 35184372087808) : TsR w (some ⟨b, 0, none⟩) n c ts := by
  refine ⟨h.len, by have := h.cap; omega, ⟨hn, h.cap.2⟩, fun _ => ⟨b, 0, rfl, fun j hj => ?_⟩⟩
  obtain ⟨xs, ⟨b1, d1, b1', d1', b2, d2, b2', d2', rfl, h4⟩, h2⟩ := h.cell j hj
  rw [Nat.zero_add]
  exact ⟨_, _, _, _, _, _, _, _, _, _, _, _, ⟨h2 0 (by omega), h2 1 (by omega), h2 2 (by omega), h2 3 (by omega), h2 4 (by omega), h2 5 (by omega), h2 6 (by omega), h2 7 (by omega), h2 8 (by omega)⟩, hr _ (List.getElem_mem hj), h4.a.words, h4.b.words, h4.c.words, h4.d.words⟩
end Go.Proofs.YtcbkijeonilcjaaGreat

/- The kit of the statements: a list of constituents is lent. -/
namespace Go.Proofs.YtcbkijeonilcjaaGreat
open Go.RowKit

def nineS (ys : List Value) : Prop := ys.length = 9 ∧ ∃ s, ys[0]? = some (.string s)
theorem LtT.nine {w : World} {T : Td} {xs : List Value} (h : LtT w T xs) : nineS xs := by
  obtain ⟨b1, d1, b1', d1', b2, d2, b2', d2', rfl, _⟩ := h
  exact ⟨rfl, _, rfl⟩
theorem bh_nine : nineS bhCells := ⟨rfl, _, rfl⟩
theorem LtT.grown {w w1 : World} {T : Td} {xs : List Value} {v : Value} {n base : Nat} {yss : List (List Value)} {E : TypeId} (h : LtT w T xs) (ho : w.ownsRow base E 9 v n yss.flatten) (hy : ∀ ys ∈ yss, nineS ys) (h0 : n = 0 → v.ownBlock = none) (hg : w.grownBy w1 v.ownBlock) : LtT w1 T xs := by
  obtain ⟨b1, d1, b1', d1', b2, d2, b2', d2', e, h1⟩ := h
  have key : ∀ {b n c : Nat} {l : List Nat}, LtW w b n c l → LtW w1 b n c l := by
    intro b n' c l hb
    refine hb.apart (hg.block b hb.blt (fun e => ?_))
    have hn : 0 < n := by
      rcases Nat.eq_zero_or_pos n with hz | hz
      · rw [h0 hz] at e; cases e
      · exact hz
    obtain ⟨g, cap, rfl, _, hlen, _, hc⟩ := row_cells ho (fun l hl => (hy l hl).1) hn
    injection e with e
    subst e
    obtain ⟨s, hs⟩ := (hy _ (List.getElem_mem (by omega : 0 < yss.length))).2
    have h1 := hc 0 (by omega) 0 (by omega)
    obtain ⟨b', o', e', hcc⟩ := hb.rd.cell (by omega)
    cases e'
    have h2 := hcc 0 (by omega)
    rw [show (0 : Nat) * 9 + 0 = 0 + 0 from rfl] at h1
    rw [h1, hs] at h2
    injection h2 with h2
    cases h2
  exact ⟨b1, d1, b1', d1', b2, d2, b2', d2', e, key h1.a, key h1.b, key h1.c, key h1.d⟩
theorem flat_snoc (xss : List (List Value)) (ys : List Value) : xss.flatten ++ ys = (xss ++ [ys]).flatten := by simp
theorem rep_snoc {α : Type} (i : Nat) (x : α) : List.replicate i x ++ [x] = List.replicate (i + 1) x := by rw [List.replicate_succ']
/-- how long a constituent's lists are -/
def TdS (T : Td) : Prop := (T.l1.length ≤ 100000 ∧ T.l1'.length ≤ 100000) ∧ (T.l2.length ≤ 100000 ∧ T.l2'.length ≤ 100000)
/-- the rows' part of a loop's relation -/
structure LtRow (w wr : World) (ts : List Td) (ov : Value) (m : Nat) (xss yss : List (List Value)) : Prop where
  own : wr.ownsRow w.heap.size 85 9 ov m yss.flatten
  nine : ∀ ys ∈ yss, nineS ys
  lent : ∀ j (h : j < xss.length) (h' : j < ts.length), LtT wr ts[j] xss[j]
  nil : m = 0 → ov.ownBlock = none
  bel : Below w.heap.size w wr
theorem LtRow.step {w wr w1 : World} {ts : List Td} {ov : Value} {m : Nat} {xss yss : List (List Value)} (h : LtRow w wr ts ov m xss yss) (hb : Below wr.heap.size wr w1) : LtRow w w1 ts ov m xss yss :=
  ⟨row_keep h.own fun g hg => hb.block g (row_base h.own g hg).2, h.nine, fun j a b => (h.lent j a b).below hb, h.nil, bel_step h.bel hb⟩
theorem LtRow.push {w w5 w6 : World} {ts : List Td} {ov v6 : Value} {m : Nat} {xss yss : List (List Value)} {ys : List Value} (h : LtRow w w5 ts ov m xss yss) (hn : nineS ys) (ho : w6.ownsRow w.heap.size 85 9 v6 (m + 1) (yss.flatten ++ ys)) (hg : w5.grownBy w6 ov.ownBlock) (hs : w.heap.size ≤ w5.heap.size) : LtRow w w6 ts v6 (m + 1) xss (yss ++ [ys]) := by
  refine ⟨by rw [← flat_snoc]; exact ho, fun l hl => ?_, fun j a b => (h.lent j a b).grown h.own h.nine h.nil hg, fun h0 => absurd h0 (by omega), h.bel.grown hg hs (fun g hg => (row_base h.own g hg).1)⟩
  rcases List.mem_append.1 hl with hl | hl
  · exact h.nine l hl
  · rw [List.mem_singleton.1 hl]; exact hn
theorem LtRow.lts {w wr : World} {ts : List Td} {ov : Value} {n : Nat} {xss : List (List Value)} (h : LtRow w wr ts ov (n + 3) xss (xss ++ List.replicate 3 bhCells)) (hx : xss.length = n) (hl : ts.length = n) : ∃ b cc, ov = .slice (some ⟨b, 0, none⟩) (n + 3) cc ∧ LtS wr b n cc ts := by
  obtain ⟨b, cc, rfl, _, hlen, hcap, hc⟩ := row_cells h.own (fun l hl => (h.nine l hl).1) (by omega)
  refine ⟨b, cc, rfl, hl, hcap, fun j hj => ?_, fun j hj r hr => ?_⟩
  · refine ⟨xss[j]'(by omega), h.lent j (by omega) hj, fun r hr => ?_⟩
    rw [hc j (by omega) r hr, List.getElem_append_left (by omega)]
  · rw [hc (n + j) (by omega) r hr, List.getElem_append_right (by omega), List.getElem_replicate]
theorem rd4_of {w : World} {b o : Nat} {T : Td} (h : TdC w b o T) (hS : TdS T) : ∃ A1 c1 A1' c1' A2 c2 A2' c2',
    (w.cell? ⟨b, o, none⟩ = some (.string T.nm) ∧ w.cell? ⟨b, o + 1, none⟩ = some (.int .i32 T.far) ∧ w.cell? ⟨b, o + 2, none⟩ = some (.int .i32 T.near) ∧ w.cell? ⟨b, o + 3, none⟩ = some (.bool T.g1) ∧ w.cell? ⟨b, o + 4, none⟩ = some (.slice A1 T.l1.length c1) ∧ w.cell? ⟨b, o + 5, none⟩ = some (.slice A1' T.l1'.length c1') ∧ w.cell? ⟨b, o + 6, none⟩ = some (.bool T.g2) ∧ w.cell? ⟨b, o + 7, none⟩ = some (.slice A2 T.l2.length c2) ∧ w.cell? ⟨b, o + 8, none⟩ = some (.slice A2' T.l2'.length c2')) ∧
    Rd4 w A1 T.l1.length c1 A1' T.l1'.length c1' A2 T.l2.length c2 A2' T.l2'.length c2' T.l1 T.l1' T.l2 T.l2' := by
  obtain ⟨A1, n1, c1, A1', n1', c1', A2, n2, c2, A2', n2', c2', h0, hb0, r1, r2, r3, r4⟩ := h
  obtain rfl := r1.len
  obtain rfl := r2.len
  obtain rfl := r3.len
  obtain rfl := r4.len
  exact ⟨A1, c1, A1', c1', A2, c2, A2', c2', h0, r1, r2, r3, r4, hS⟩
set_option maxRecDepth 100000 in
set_option maxHeartbeats 4000000 in
theorem kit_LentTides {A : Option Addr} {n c : Nat} {ts : List Td} (w : World) (h : TsR w A n c ts) (hn : n ≤ 100000) (hS : ∀ T ∈ ts, TdS T) :
    Calls Tryz.prog 48 #[.slice A n c] w fun e w' => ∃ b cc, e = .returned (.slice (some ⟨b, 0, none⟩) (n + 3 : Nat) cc) ∧ LtS w' b n cc ts ∧ Below w.heap.size w w' := by
  obtain ⟨i0, z0, hi0, hz0, hz1, hz2, hz3⟩ := tinfo
  have HT := Lib.hid h
  have HL := Lib.hid h.len
  have HS := Lib.hid hS
  have hcap := h.cap
  clear h hS
  go_enter Tryz.func48, Tryz.ntmps48
  go_wp2_with fail
  go_loopg [3, 4] n (fun g ov iv wr => ∃ (i : Nat) (xss : List (List Value)), iv = .int .i64 i ∧ i + g = n ∧ xss.length = i ∧ LtRow w wr ts ov i xss xss)
  case atStart => exact ⟨0, [], rfl, by omega, rfl, ⟨World.ownsRow_nil _ _ _ _, by simp, fun j h => absurd h (by simp), fun _ => rfl, Below.refl _ _⟩⟩
  case round =>
    obtain ⟨i, xss, rfl, hi, hxl, hrow⟩ := hrel
    have HX := Lib.hid hxl
    have HR := Lib.hid hrow
    clear hxl hrow
    by_cases hin : i < n
    · obtain ⟨b, o, rfl, hcel⟩ := (HT.out.below HR.out.bel).cell (by omega)
      have hil : i < ts.length := by rw [HL.out]; exact hin
      obtain ⟨A1, c1, A1', c1', A2, c2, A2', c2', ⟨q0, q1, q2, q3, q4, q5, q6, q7, q8⟩, hR4⟩ := rd4_of (hcel i hil) (HS.out _ (List.getElem_mem hil))
      have HLT := Lib.hid (kit_LentTide ts[i].nm ts[i].far ts[i].near ts[i].g1 ts[i].g2 wr hR4)
      have HTI := Lib.hid (fun (wz : World) (ys : List Value) (hy : LtT wz ts[i] ys) (hl : ∀ j (h : j < xss.length) (h' : j < ts.length), LtT wz ts[j] xss[j]) => (show ∀ j (h : j < (xss ++ [ys]).length) (h' : j < ts.length), LtT wz ts[j] (xss ++ [ys])[j] from fun j a b => by
        by_cases e : j < xss.length
        · rw [List.getElem_append_left e]; exact hl j e b
        · have e2 : j = i := by rw [List.length_append, List.length_singleton, HX.out] at a; rw [HX.out] at e; omega
          subst e2
          rw [List.getElem_append_right (by rw [HX.out]; omega)]
          simp only [HX.out, Nat.sub_self, List.getElem_cons_zero]
          exact hy))
      clear hR4 hcel
      obtain ⟨Z, cz, rfl⟩ := row_shape HR.out.own
      generalize hT : ts[i] = T at *
      clear hT
      go_wp2_with fail
      refine HLT.out.mono ?_
      rintro e w4 ⟨b1, d1, b1', d1', b2, d2, b2', d2', rfl, hL4, hB4⟩
      obtain ⟨W5, hW5⟩ : ∃ x, w4.alloc (.cells #[.string T.nm, .int .i32 T.far, .int .i32 T.near, .bool T.g1, .slice (some ⟨b1, 0, none⟩) T.l1.length d1, .slice (some ⟨b1', 0, none⟩) T.l1'.length d1', .bool T.g2, .slice (some ⟨b2, 0, none⟩) T.l2.length d2, .slice (some ⟨b2', 0, none⟩) T.l2'.length d2'] 85) = x := ⟨_, rfl⟩
      have hb5 : Below w4.heap.size w4 W5 := by rw [← hW5]; exact (Below.refl _ _).alloc (Nat.le_refl _) _
      have hc5 : W5.heap[w4.heap.size]? = some (.cells (ltCells T b1 d1 b1' d1' b2 d2 b2' d2').toArray 85 (0, 0)) := by rw [← hW5]; exact heap_alloc_new w4 _
      have H5 := Lib.hid (And.intro ((HR.out.step hB4).step hb5) (And.intro hc5 (show LtT W5 T (ltCells T b1 d1 b1' d1' b2 d2 b2' d2') from ⟨_, _, _, _, _, _, _, _, rfl, hL4.below hb5⟩)))
      have hsz := H5.out.1.bel.size
      clear hL4 hB4 hb5 hc5 q0 q1 q2 q3 q4 q5 q6 q7 q8
      go_wp2_with (at_builtin; refine wpList_append_own_at _ rfl (.tmp 12) (.tmp 18) 25 rfl w.heap.size 85 i0 z0 9 136 Tryz.underlying25 hi0 hz0 hz1 hz2 hz3 (by decide) (.slice Z i cz) i _ rfl H5.out.1.own ⟨w4.heap.size, 0, none⟩ 1 1 (ltCells T b1 d1 b1' d1' b2 d2 b2' d2') rfl rfl (block_new H5.out.2.1) (nine_one ⟨rfl, rfl, rfl, rfl, rfl, rfl, rfl, rfl, rfl⟩) (by unfold maxLen; omega) (by omega) hsz ?_; intro v6 w6 hown hgr _ _; (have hpu := H5.out.1.push H5.out.2.2.nine hown hgr hsz); (have H6 := Lib.hid (And.intro hpu (H5.out.2.2.grown H5.out.1.own H5.out.1.nine H5.out.1.nil hgr))); clear hpu hown hgr; have HW5 := Lib.hid hW5; clear hW5)
      go_roundg (n - (i + 1))
      case measure => omega
      case rel => exact ⟨i + 1, xss ++ [ltCells T b1 d1 b1' d1' b2 d2 b2' d2'], by simp, by omega, by rw [List.length_append, HX.out]; rfl, H6.out.1.own, H6.out.1.nine, HTI.out _ _ H6.out.2 H6.out.1.lent, H6.out.1.nil, H6.out.1.bel⟩
    · have hin2 : i = n := by omega
      subst hin2
      clear hi hin
      go_wp2_with fail
      go_loopg [3, 5] 3 (fun g ov iv wr' => ∃ i2 : Nat, iv = .int .i64 i2 ∧ i2 + g = 3 ∧ LtRow w wr' ts ov (i + i2) xss (xss ++ List.replicate i2 bhCells))
      case atStart => exact ⟨0, rfl, by omega, by simpa using HR.out⟩
      case round =>
        obtain ⟨i2, rfl, hi, hrow⟩ := hrel
        have HR2 := Lib.hid hrow
        clear hrow
        by_cases hin : i2 < 3
        · obtain ⟨Z, cz, rfl⟩ := row_shape HR2.out.own
          obtain ⟨W5, hW5⟩ : ∃ x, wr.alloc (.cells #[.string ⟨#[98, 101, 104, 105, 110, 100]⟩, .int .i32 0, .int .i32 0, .bool false, .slice none 0 0, .slice none 0 0, .bool false, .slice none 0 0, .slice none 0 0] 85) = x := ⟨_, rfl⟩
          have hb5 : Below wr.heap.size wr W5 := by rw [← hW5]; exact (Below.refl _ _).alloc (Nat.le_refl _) _
          have hc5 : W5.heap[wr.heap.size]? = some (.cells bhCells.toArray 85 (0, 0)) := by rw [← hW5]; exact heap_alloc_new wr _
          have H5 := Lib.hid (And.intro (HR2.out.step hb5) hc5)
          have hsz := H5.out.1.bel.size
          have HRS : Hid ((xss ++ List.replicate i2 bhCells) ++ [bhCells] = xss ++ List.replicate (i2 + 1) bhCells) := by show _ = _; rw [List.append_assoc, rep_snoc]
          clear hb5 hc5
          go_wp2_with (at_builtin; refine wpList_append_own_at _ rfl (.tmp 24) (.tmp 26) 25 rfl w.heap.size 85 i0 z0 9 136 Tryz.underlying25 hi0 hz0 hz1 hz2 hz3 (by decide) (.slice Z (i + i2) cz) (i + i2) _ rfl H5.out.1.own ⟨wr.heap.size, 0, none⟩ 1 1 bhCells rfl rfl (block_new H5.out.2) (nine_one ⟨rfl, rfl, rfl, rfl, rfl, rfl, rfl, rfl, rfl⟩) (by unfold maxLen; omega) (by omega) hsz ?_; intro v6 w6 hown hgr _ _; (have hpu := H5.out.1.push bh_nine hown hgr hsz); rw [HRS.out] at hpu; (have H6 := Lib.hid hpu); clear hpu hown hgr; have HW5 := Lib.hid hW5; clear hW5)
          go_roundg (3 - (i2 + 1))
          case measure => omega
          case rel => exact ⟨i2 + 1, by simp, by omega, H6.out⟩
        · obtain rfl : i2 = 3 := by omega
          obtain ⟨b, cc, rfl, hL⟩ := HR2.out.lts HX.out HL.out
          have HF := Lib.hid (And.intro hL HR2.out.bel)
          clear hL
          go_wp2_with fail
          go_ret
          exact ⟨_, _, rfl, HF.out⟩
end Go.Proofs.YtcbkijeonilcjaaGreat

/- The kit of the statements: a list of constituents that was lent is as it was. -/
namespace Go.Proofs.YtcbkijeonilcjaaGreat
open Go.RowKit

set_option maxRecDepth 100000 in
set_option maxHeartbeats 4000000 in
theorem kit_KeptTides {A : Option Addr} {b n c cc : Nat} {ts : List Td} (w : World) (k : LtS w b n cc ts) (h : TsR w A n c ts) (hn : n ≤ 100000) (hS : ∀ T ∈ ts, TdS T) :
    Calls Tryz.prog 64 #[.slice (some ⟨b, 0, none⟩) (n + 3 : Nat) cc, .slice A n c] w fun e w' => e = .returned (.bool true) ∧ Below w.heap.size w w' := by
  have HT := Lib.hid h
  have HK := Lib.hid k
  have HL := Lib.hid h.len
  have HS := Lib.hid hS
  have hcap := h.cap
  have hcapk := k.cap.1
  clear h hS k
  go_enter Tryz.func64, Tryz.ntmps64
  go_wp2_with fail
  go_loopg [5] n (fun g iv wr => ∃ i : Nat, iv = .int .i64 i ∧ i + g = n ∧ Below w.heap.size w wr)
  case atStart => exact ⟨0, rfl, by omega, Below.refl _ _⟩
  case round =>
    obtain ⟨i, rfl, hi, hB⟩ := hrel
    have HB := Lib.hid hB
    clear hB
    by_cases hin : i < n
    · obtain ⟨bl, o, rfl, hcel⟩ := (HT.out.below HB.out).cell (by omega)
      have hil : i < ts.length := by rw [HL.out]; exact hin
      obtain ⟨A1, c1, A1', c1', A2, c2, A2', c2', hq, hR4⟩ := rd4_of (hcel i hil) (HS.out _ (List.getElem_mem hil))
      obtain ⟨xs, ⟨b1, d1, b1', d1', b2, d2, b2', d2', rfl, h4⟩, h2⟩ := (HK.out.below HB.out).cell i hil
      have hp := And.intro (h2 0 (by omega)) (And.intro (h2 1 (by omega)) (And.intro (h2 2 (by omega)) (And.intro (h2 3 (by omega)) (And.intro (h2 4 (by omega)) (And.intro (h2 5 (by omega)) (And.intro (h2 6 (by omega)) (And.intro (h2 7 (by omega)) (h2 8 (by omega)))))))))
      have HKT := Lib.hid (fun w' (hb : Below wr.heap.size wr w') => kit_KeptTide ts[i].nm ts[i].far ts[i].near ts[i].g1 ts[i].g2 w' (h4.below hb) (hR4.below hb))
      clear hcel h2 h4 hR4
      generalize ts[i] = T at *
      have HF := Lib.hid (fun w' (hb : Below wr.heap.size wr w') => (show (w'.cell? ⟨b, i * 9, none⟩ = some (.string T.nm) ∧ w'.cell? ⟨b, i * 9 + 1, none⟩ = some (.int .i32 T.far) ∧ w'.cell? ⟨b, i * 9 + 2, none⟩ = some (.int .i32 T.near) ∧ w'.cell? ⟨b, i * 9 + 3, none⟩ = some (.bool T.g1) ∧ w'.cell? ⟨b, i * 9 + 4, none⟩ = some (.slice (some ⟨b1, 0, none⟩) T.l1.length d1) ∧ w'.cell? ⟨b, i * 9 + 5, none⟩ = some (.slice (some ⟨b1', 0, none⟩) T.l1'.length d1') ∧ w'.cell? ⟨b, i * 9 + 6, none⟩ = some (.bool T.g2) ∧ w'.cell? ⟨b, i * 9 + 7, none⟩ = some (.slice (some ⟨b2, 0, none⟩) T.l2.length d2) ∧ w'.cell? ⟨b, i * 9 + 8, none⟩ = some (.slice (some ⟨b2', 0, none⟩) T.l2'.length d2')) ∧
          (w'.cell? ⟨bl, o + i * 9, none⟩ = some (.string T.nm) ∧ w'.cell? ⟨bl, o + i * 9 + 1, none⟩ = some (.int .i32 T.far) ∧ w'.cell? ⟨bl, o + i * 9 + 2, none⟩ = some (.int .i32 T.near) ∧ w'.cell? ⟨bl, o + i * 9 + 3, none⟩ = some (.bool T.g1) ∧ w'.cell? ⟨bl, o + i * 9 + 4, none⟩ = some (.slice A1 T.l1.length c1) ∧ w'.cell? ⟨bl, o + i * 9 + 5, none⟩ = some (.slice A1' T.l1'.length c1') ∧ w'.cell? ⟨bl, o + i * 9 + 6, none⟩ = some (.bool T.g2) ∧ w'.cell? ⟨bl, o + i * 9 + 7, none⟩ = some (.slice A2 T.l2.length c2) ∧ w'.cell? ⟨bl, o + i * 9 + 8, none⟩ = some (.slice A2' T.l2'.length c2')) from by
        have hcc : ∀ {a : Addr} {v : Value}, wr.cell? a = some v → w'.cell? a = some v := fun {a v} e => by rw [hb.cell (World.block_lt_of_cell? wr _ e)]; exact e
        obtain ⟨p0, p1, p2, p3, p4, p5, p6, p7, p8⟩ := hp
        obtain ⟨q0, q1, q2, q3, q4, q5, q6, q7, q8⟩ := hq
        exact ⟨⟨hcc p0, hcc p1, hcc p2, hcc p3, hcc p4, hcc p5, hcc p6, hcc p7, hcc p8⟩, hcc q0, hcc q1, hcc q2, hcc q3, hcc q4, hcc q5, hcc q6, hcc q7, hcc q8⟩))
      clear hp hq
      have i0 : (0 : Int) ≤ (i : Int) := by omega
      have i1 : (i : Int) < (n : Int) := by omega
      have i2 : (i : Int) < (n : Int) + 3 := by omega
      go_upto_region 6 with fail
      have hBs : Below wr.heap.size wr wr.drew := below_drewN (Below.refl _ _) 1
      go_region_held3 (fun w' => (w'.cell? ⟨b, i * 9, none⟩ = some (.string T.nm) ∧ w'.cell? ⟨b, i * 9 + 1, none⟩ = some (.int .i32 T.far) ∧ w'.cell? ⟨b, i * 9 + 2, none⟩ = some (.int .i32 T.near) ∧ w'.cell? ⟨b, i * 9 + 3, none⟩ = some (.bool T.g1) ∧ w'.cell? ⟨b, i * 9 + 4, none⟩ = some (.slice (some ⟨b1, 0, none⟩) T.l1.length d1) ∧ w'.cell? ⟨b, i * 9 + 5, none⟩ = some (.slice (some ⟨b1', 0, none⟩) T.l1'.length d1') ∧ w'.cell? ⟨b, i * 9 + 6, none⟩ = some (.bool T.g2) ∧ w'.cell? ⟨b, i * 9 + 7, none⟩ = some (.slice (some ⟨b2, 0, none⟩) T.l2.length d2) ∧ w'.cell? ⟨b, i * 9 + 8, none⟩ = some (.slice (some ⟨b2', 0, none⟩) T.l2'.length d2')) ∧
          (w'.cell? ⟨bl, o + i * 9, none⟩ = some (.string T.nm) ∧ w'.cell? ⟨bl, o + i * 9 + 1, none⟩ = some (.int .i32 T.far) ∧ w'.cell? ⟨bl, o + i * 9 + 2, none⟩ = some (.int .i32 T.near) ∧ w'.cell? ⟨bl, o + i * 9 + 3, none⟩ = some (.bool T.g1) ∧ w'.cell? ⟨bl, o + i * 9 + 4, none⟩ = some (.slice A1 T.l1.length c1) ∧ w'.cell? ⟨bl, o + i * 9 + 5, none⟩ = some (.slice A1' T.l1'.length c1') ∧ w'.cell? ⟨bl, o + i * 9 + 6, none⟩ = some (.bool T.g2) ∧ w'.cell? ⟨bl, o + i * 9 + 7, none⟩ = some (.slice A2 T.l2.length c2) ∧ w'.cell? ⟨bl, o + i * 9 + 8, none⟩ = some (.slice A2' T.l2'.length c2')))
        (first
          | with_reducible exact HF.out _ hBs
          | with_reducible exact HF.out _ hBc2)
        ((go_at_call 134; (with_reducible refine (HKT.out _ hBs).mono ?_); rintro e w2 ⟨rfl, hB2⟩; have hBc2 := bel_step hBs hB2))
      have HB2 := Lib.hid (bel_step HB.out hBc2)
      clear hB2 hBc2 hBs
      go_wp2_with fail
      go_roundg (n - (i + 1))
      case measure => omega
      case rel => exact ⟨i + 1, by simp, by omega, HB2.out⟩
    · have hin2 : i = n := by omega
      subst hin2
      clear hi hin
      go_wp2_with fail
      go_loopg [6] 3 (fun g iv wr' => ∃ i2 : Nat, iv = .int .i64 (i + i2 : Nat) ∧ i2 + g = 3 ∧ Below w.heap.size w wr')
      case atStart => exact ⟨0, rfl, by omega, HB.out⟩
      case round =>
        obtain ⟨i2, rfl, hi, hB⟩ := hrel
        have HB2 := Lib.hid hB
        clear hB
        by_cases hin : i2 < 3
        · have hq := (HK.out.below HB2.out).tail i2 hin
          have HST := Lib.hid (kit_SameTide0 behind wr)
          have q0 : wr.cell? ⟨b, (i + i2) * 9, none⟩ = some (.string ⟨#[98, 101, 104, 105, 110, 100]⟩) := hq 0 (by omega)
          have q1 : wr.cell? ⟨b, (i + i2) * 9 + 1, none⟩ = some (.int .i32 0) := hq 1 (by omega)
          have q2 : wr.cell? ⟨b, (i + i2) * 9 + 2, none⟩ = some (.int .i32 0) := hq 2 (by omega)
          have q3 : wr.cell? ⟨b, (i + i2) * 9 + 3, none⟩ = some (.bool false) := hq 3 (by omega)
          have q4 : wr.cell? ⟨b, (i + i2) * 9 + 4, none⟩ = some (.slice none 0 0) := hq 4 (by omega)
          have q5 : wr.cell? ⟨b, (i + i2) * 9 + 5, none⟩ = some (.slice none 0 0) := hq 5 (by omega)
          have q6 : wr.cell? ⟨b, (i + i2) * 9 + 6, none⟩ = some (.bool false) := hq 6 (by omega)
          have q7 : wr.cell? ⟨b, (i + i2) * 9 + 7, none⟩ = some (.slice none 0 0) := hq 7 (by omega)
          have q8 : wr.cell? ⟨b, (i + i2) * 9 + 8, none⟩ = some (.slice none 0 0) := hq 8 (by omega)
          clear hq
          go_wp2_with fail
          refine HST.out.mono ?_
          rintro e w4 ⟨rfl, hB4⟩
          have HB4 := Lib.hid (bel_step HB2.out hB4)
          clear hB4 q0 q1 q2 q3 q4 q5 q6 q7 q8
          go_wp2_with fail
          go_roundg (3 - (i2 + 1))
          case measure => omega
          case rel => exact ⟨i2 + 1, by go_num, by omega, HB4.out⟩
        · obtain rfl : i2 = 3 := by omega
          clear hi hin
          go_wp2_with fail
          go_ret
          exact ⟨rfl, HB2.out⟩
end Go.Proofs.YtcbkijeonilcjaaGreat
