/- Memory as lists of words: what is read, what the call itself made. -/
import Derived.Test.YtcbkijeonilcjaaGreatHC1
import Derived.WalkKit
import Derived.BigQuiet
import Derived.Deep.QuietTactic
import Derived.Lib.Hide
import Derived.WalkLawsBesides
import Derived.WalkSpells
import Derived.Deep.RegionWith
import Derived.Deep.RegionHeld3
namespace Go.Proofs.YtcbkijeonilcjaaGreat
open Go.RowKit

theorem bcell {W w1 : World} (hb : Below W.heap.size W w1) : (∀ b o, b < W.heap.size → w1.cell? ⟨b, o, none⟩ = W.cell? ⟨b, o, none⟩) ∧ (∀ b o, b < W.heap.size → w1.frozen? ⟨b, o, none⟩ = W.frozen? ⟨b, o, none⟩) :=
  ⟨fun b o h => hb.cell (p := ⟨b, o, none⟩) h, fun b o h => hb.frozen (p := ⟨b, o, none⟩) h⟩
theorem cell_of_drewN {w w1 : World} {n : Nat} (hb : Below (w.drewN n).heap.size (w.drewN n) w1) {a : Addr} {v : Value} (h : w.cell? a = some v) : w1.cell? a = some v := by
  have h2 : (w.drewN n).cell? a = some v := h
  rw [hb.cell (World.block_lt_of_cell? _ _ h2)]; exact h2
theorem ret_int {k : IntKind} {a b : Int} (h : a = b) : Ending.returned (.int k a) = .returned (.int k b) := by rw [h]
theorem ret_val {a b : Value} (h : a = b) : Ending.returned a = .returned b := by rw [h]

/-- The world is the old one, some orders having been drawn. -/
def Drn (w w' : World) : Prop := ∃ n, w' = w.drewN n
theorem Drn.refl (w : World) : Drn w w := ⟨0, rfl⟩
theorem drn1 (w : World) (n : Nat) : Drn w (w.drewN n) := ⟨n, rfl⟩
theorem Drn.step {w w' : World} (h : Drn w w') (n : Nat) : Drn w (w'.drewN n) := by
  obtain ⟨m, rfl⟩ := h
  exact ⟨m + n, World.drewN_drewN ..⟩
theorem Drn.trans {a b c : World} (h : Drn a b) (k : Drn b c) : Drn a c := by
  obtain ⟨n, rfl⟩ := k
  exact h.step n
theorem below_drewN {B : Nat} {a w : World} (h : Below B a w) (n : Nat) : Below B a (w.drewN n) := ⟨h.os, h.tape, h.output, h.size, h.block⟩
theorem Drn.below {w w' : World} (h : Drn w w') (B : Nat) : Below B w w' := by
  obtain ⟨n, rfl⟩ := h
  exact below_drewN (Below.refl _ _) n

/-- A slice of words that is read. -/
structure Rd (w : World) (A : Option Addr) (n c : Nat) (l : List Nat) : Prop where
  len : l.length = n
  lim : lim l
  cap : n ≤ c
  big : n ≤ 35184372087808 ∧ c ≤ maxLen
  cell : 0 < n → ∃ b o, A = some ⟨b, o, none⟩ ∧ ∀ j, j < n → w.cell? ⟨b, o + j, none⟩ = some (.int .u32 (wd l j : Nat))
theorem Rd.below {w w1 : World} {A : Option Addr} {n c : Nat} {l : List Nat} (h : Rd w A n c l) (hb : Below w.heap.size w w1) : Rd w1 A n c l :=
  ⟨h.len, h.lim, h.cap, h.big, fun hn => by
    obtain ⟨b, o, e, hc⟩ := h.cell hn
    refine ⟨b, o, e, fun j hj => ?_⟩
    have h1 := hc j hj
    rw [hb.cell (World.block_lt_of_cell? w _ h1)]; exact h1⟩
theorem Rd.block {w : World} {b o n c : Nat} {l : List Nat} (h : Rd w (some ⟨b, o, none⟩) n c l) (hn : 0 < n) : b < w.heap.size := by
  obtain ⟨b', o', e, hc⟩ := h.cell hn
  cases e
  exact World.block_lt_of_cell? w _ (hc 0 hn)
theorem Rd.nil (w : World) : Rd w none 0 0 [] := ⟨rfl, lim_nil, Nat.le_refl _, ⟨by omega, Nat.zero_le _⟩, fun h => absurd h (by omega)⟩
/-- the first words of a slice -/
theorem Rd.take {w : World} {A : Option Addr} {n c : Nat} {l : List Nat} (h : Rd w A n c l) (k : Nat) (hk : k ≤ n) : Rd w A k c (l.take k) :=
  ⟨by rw [List.length_take, h.len]; omega, lim_take h.lim k, by have := h.cap; omega, ⟨by have := h.big; omega, h.big.2⟩, fun hp => by
    obtain ⟨b, o, e, hc⟩ := h.cell (by omega)
    refine ⟨b, o, e, fun j hj => ?_⟩
    rw [hc j (by omega), wd, wd, List.getD_eq_getElem?_getD, List.getD_eq_getElem?_getD, List.getElem?_take, if_pos hj]⟩
theorem Rd.drn {w w1 : World} {A : Option Addr} {n c : Nat} {l : List Nat} (h : Rd w A n c l) (hb : Drn w w1) : Rd w1 A n c l := h.below (hb.below _)
theorem Rd.drewN {w : World} {A : Option Addr} {n c : Nat} {l : List Nat} (h : Rd w A n c l) (m : Nat) : Rd (w.drewN m) A n c l := h.below (below_drewN (Below.refl _ _) m)
/-- cut to its one form -/
theorem Rd.cut {w : World} {A : Option Addr} {n c : Nat} {l : List Nat} (h : Rd w A n c l) : Rd w A (wl (val l)) c (wds (val l)) := by
  have hl := h.len
  subst hl
  rw [← tl_len h.lim, ← take_tl h.lim]
  exact h.take _ (tl_le _ _)

/-- A slice of words over an array that the call may write. -/
def Ar (T : TypeId) (w : World) (b o n c : Nat) (l : List Nat) : Prop :=
  ∃ cur : Array Value, w.heap[b]? = some (.cells cur T (0, 0)) ∧ o + c ≤ cur.size ∧ n ≤ c ∧ (n ≤ 35184372087808 ∧ c ≤ maxLen) ∧ l.length = n ∧ lim l ∧ ∀ j, j < n → cur[o + j]? = some (.int .u32 (wd l j : Nat))

theorem Ar.lt {T : TypeId} {w : World} {b o n c : Nat} {l : List Nat} (h : Ar T w b o n c l) : b < w.heap.size := by
  obtain ⟨cur, h1, _⟩ := h
  exact (Array.getElem?_eq_some_iff.1 h1).1
theorem Ar.len {T : TypeId} {w : World} {b o n c : Nat} {l : List Nat} (h : Ar T w b o n c l) : l.length = n := by
  obtain ⟨cur, _, _, _, _, h1, _⟩ := h
  exact h1
theorem Ar.lim {T : TypeId} {w : World} {b o n c : Nat} {l : List Nat} (h : Ar T w b o n c l) : lim l := by
  obtain ⟨cur, _, _, _, _, _, h1, _⟩ := h
  exact h1
theorem Ar.cap {T : TypeId} {w : World} {b o n c : Nat} {l : List Nat} (h : Ar T w b o n c l) : n ≤ c ∧ (n ≤ 35184372087808 ∧ c ≤ maxLen) := by
  obtain ⟨cur, _, _, h1, h2, _⟩ := h
  exact ⟨h1, h2⟩
theorem Ar.cell {T : TypeId} {w : World} {b o n c : Nat} {l : List Nat} (h : Ar T w b o n c l) (j : Nat) (hj : j < n) : w.cell? ⟨b, o + j, none⟩ = some (.int .u32 (wd l j : Nat)) := by
  obtain ⟨cur, h1, _, _, _, _, _, h2⟩ := h
  simp [World.cell?, h1, h2 j hj]
theorem Ar.free {T : TypeId} {w : World} {b o n c : Nat} {l : List Nat} (h : Ar T w b o n c l) (j : Nat) : w.frozen? ⟨b, j, none⟩ = false := by
  obtain ⟨cur, h1, _⟩ := h
  simp [World.frozen?, h1]
theorem Ar.rd {T : TypeId} {w : World} {b o n c : Nat} {l : List Nat} (h : Ar T w b o n c l) : Rd w (some ⟨b, o, none⟩) n c l :=
  ⟨h.len, h.lim, h.cap.1, h.cap.2, fun _ => ⟨b, o, rfl, fun j hj => h.cell j hj⟩⟩
theorem Ar.of_block {T : TypeId} {w w1 : World} {b o n c : Nat} {l : List Nat} (h : Ar T w b o n c l) (hb : w1.heap[b]? = w.heap[b]?) : Ar T w1 b o n c l := by
  obtain ⟨cur, h1, h2⟩ := h
  exact ⟨cur, by rw [hb]; exact h1, h2⟩
theorem Ar.below {T : TypeId} {w w1 : World} {b o n c : Nat} {l : List Nat} (h : Ar T w b o n c l) (hb : Below w.heap.size w w1) : Ar T w1 b o n c l := h.of_block (hb.block b h.lt)
theorem Ar.drewN {T : TypeId} {w : World} {b o n c : Nat} {l : List Nat} (h : Ar T w b o n c l) (m : Nat) : Ar T (w.drewN m) b o n c l := h.of_block rfl
theorem Ar.alloc {T : TypeId} {w : World} {b o n c : Nat} {l : List Nat} (h : Ar T w b o n c l) (x : Obj) : Ar T (w.alloc x) b o n c l := h.of_block (Below.heap_alloc _ _ _ h.lt)
theorem Ar.set {T : TypeId} {w : World} {b o n c : Nat} {l : List Nat} (h : Ar T w b o n c l) (i x : Nat) (hi : i < n) (hx : x < 4294967296) : Ar T (w.setCell ⟨b, o + i, none⟩ (.int .u32 (x : Nat))) b o n c (l.set i x) := by
  obtain ⟨cur, h1, h2, h3, h4, h5, h6, h7⟩ := h
  refine ⟨cur.setIfInBounds (o + i) (.int .u32 (x : Nat)), by rw [World.setCell, Array.getElem?_modify, if_pos rfl, h1]; rfl, by simpa using h2, h3, h4, by simpa using h5, ?_, fun j hj => ?_⟩
  · intro y hy
    rcases List.mem_or_eq_of_mem_set hy with h | h
    · exact h6 y h
    · rw [h]; exact hx
  · rw [Array.getElem?_setIfInBounds]
    by_cases e : i = j
    · subst e
      simp [wd, h5, hi]; omega
    · rw [if_neg (by omega), h7 j hj]
      simp [wd, List.getElem?_set_ne e]
theorem Ar.take {T : TypeId} {w : World} {b o n c : Nat} {l : List Nat} (h : Ar T w b o n c l) (k : Nat) (hk : k ≤ n) : Ar T w b o k c (l.take k) := by
  obtain ⟨cur, h1, h2, h3, h4, h5, h6, h7⟩ := h
  refine ⟨cur, h1, h2, by omega, ⟨by omega, h4.2⟩, by simp; omega, lim_take h6 k, fun j hj => ?_⟩
  rw [h7 j (by omega)]
  simp [wd, hj]
theorem Ar.cut {T : TypeId} {w : World} {b o n c : Nat} {l : List Nat} (h : Ar T w b o n c l) : Ar T w b o (wl (val l)) c (wds (val l)) := by
  have hl := h.len
  subst hl
  rw [← tl_len h.lim, ← take_tl h.lim]
  exact h.take _ (tl_le _ _)
theorem Ar.sub {T : TypeId} {w : World} {b o n c : Nat} {l : List Nat} (h : Ar T w b o n c l) (i j : Nat) (hij : i ≤ j) (hj : j ≤ n) : Ar T w b (o + i) (j - i) (c - i) ((l.drop i).take (j - i)) := by
  obtain ⟨cur, h1, h2, h3, h4, h5, h6, h7⟩ := h
  refine ⟨cur, h1, by omega, by omega, by omega, by simp; omega, lim_take (lim_drop h6 i) _, fun k hk => ?_⟩
  rw [show o + i + k = o + (i + k) from by omega, h7 (i + k) (by omega)]
  simp [wd, hk]

/-- Of block b the cells from lo on, below hi, may have changed; nothing else has. -/
structure Mod (b lo hi : Nat) (w w' : World) : Prop where
  os : w'.os = w.os
  tape : w'.tape = w.tape
  output : w'.output = w.output
  size : w'.heap.size = w.heap.size
  block : ∀ k, k ≠ b → w'.heap[k]? = w.heap[k]?
  own : ∀ (cur : Array Value) (T : TypeId), w.heap[b]? = some (.cells cur T (0, 0)) → ∃ cur' : Array Value, w'.heap[b]? = some (.cells cur' T (0, 0)) ∧ cur'.size = cur.size ∧ ∀ j, (j < lo ∨ hi ≤ j) → cur'[j]? = cur[j]?
theorem Mod.refl (b lo hi : Nat) (w : World) : Mod b lo hi w w := ⟨rfl, rfl, rfl, rfl, fun _ _ => rfl, fun cur _ h => ⟨cur, h, rfl, fun _ _ => rfl⟩⟩
theorem Mod.drewN {b lo hi : Nat} {w w' : World} (h : Mod b lo hi w w') (n : Nat) : Mod b lo hi w (w'.drewN n) := ⟨h.os, h.tape, h.output, h.size, h.block, h.own⟩
theorem Mod.trans {b lo hi : Nat} {u v w : World} (h : Mod b lo hi u v) (k : Mod b lo hi v w) : Mod b lo hi u w :=
  ⟨k.os.trans h.os, k.tape.trans h.tape, k.output.trans h.output, k.size.trans h.size, fun i hi => (k.block i hi).trans (h.block i hi), fun cur T hc => by
    obtain ⟨c1, h1, h2, h3⟩ := h.own cur T hc
    obtain ⟨c2, k1, k2, k3⟩ := k.own c1 T h1
    exact ⟨c2, k1, k2.trans h2, fun j hj => (k3 j hj).trans (h3 j hj)⟩⟩
theorem Mod.mono {b lo hi lo' hi' : Nat} {w w' : World} (h : Mod b lo hi w w') (h1 : lo' ≤ lo) (h2 : hi ≤ hi') : Mod b lo' hi' w w' :=
  ⟨h.os, h.tape, h.output, h.size, h.block, fun cur T hc => by
    obtain ⟨c1, h1, h2, h3⟩ := h.own cur T hc
    exact ⟨c1, h1, h2, fun j hj => h3 j (by omega)⟩⟩
theorem Mod.setCell {b lo hi : Nat} {w w' : World} (h : Mod b lo hi w w') (j : Nat) (v : Value) (hj : lo ≤ j ∧ j < hi) : Mod b lo hi w (w'.setCell ⟨b, j, none⟩ v) :=
  h.trans ⟨rfl, rfl, rfl, by simp [World.setCell], fun k hk => Below.heap_setCell _ _ _ _ hk, fun cur T hc => ⟨cur.setIfInBounds j v, by rw [World.setCell, Array.getElem?_modify, if_pos rfl, hc]; rfl, by simp, fun k hk => by
    rw [Array.getElem?_setIfInBounds, if_neg (by omega)]⟩⟩
theorem Mod.below {b lo hi : Nat} {w w' : World} (h : Mod b lo hi w w') (B : Nat) (hB : B ≤ b) : Below B w w' := ⟨h.os, h.tape, h.output, by rw [h.size]; exact Nat.le_refl _, fun k hk => h.block k (by omega)⟩
theorem Mod.ar {b lo hi : Nat} {w w' : World} (h : Mod b lo hi w w') {T : TypeId} {b' o n c : Nat} {l : List Nat} (ha : Ar T w b' o n c l) (hne : b' ≠ b) : Ar T w' b' o n c l := ha.of_block (h.block b' hne)
theorem Mod.rd {b lo hi : Nat} {w w' : World} (h : Mod b lo hi w w') {A : Option Addr} {n c : Nat} {l : List Nat} (hr : Rd w A n c l) (hne : 0 < n → ∀ b' o, A = some ⟨b', o, none⟩ → b' ≠ b) : Rd w' A n c l :=
  ⟨hr.len, hr.lim, hr.cap, hr.big, fun hn => by
    obtain ⟨b', o, e, hc⟩ := hr.cell hn
    exact ⟨b', o, e, fun j hj => (World.cell?_of_block (h.block b' (hne hn b' o e))).trans (hc j hj)⟩⟩
/-- a stretch of an array written anew -/
theorem Ar.put {T : TypeId} {w w' : World} {b o n c : Nat} {l l2 : List Nat} (h : Ar T w b o n c l) (i m c' : Nat) (him : i + m ≤ n) (h2 : Ar T w' b (o + i) m c' l2) (hm : Mod b (o + i) (o + i + m) w w') :
    Ar T w' b o n c (l.take i ++ l2 ++ l.drop (i + m)) := by
  obtain ⟨cur, h1, h2', h3, h4, h5, h6, h7⟩ := h
  obtain ⟨cur', k1, k2, k3⟩ := hm.own cur T h1
  obtain ⟨cur2, q1, q2, q3, q4, q5, q6, q7⟩ := h2
  rw [k1] at q1
  injection q1 with q1
  injection q1 with q1
  subst q1
  refine ⟨cur', k1, by omega, h3, h4, by simp; omega, lim_append (lim_append (lim_take h6 _) q6) (lim_drop h6 _), fun j hj => ?_⟩
  have ht : (l.take i).length = i := by simp; omega
  by_cases c1 : j < i
  · rw [k3 _ (by omega), h7 j hj, wd_append_left (by simp; omega), wd_append_left (by omega), wd_take c1]
  · by_cases c2 : j < i + m
    · have := q7 (j - i) (by omega)
      rw [show o + i + (j - i) = o + j from by omega] at this
      rw [this, wd_append_left (by simp; omega), wd_append_right (by omega), ht]
    · rw [k3 _ (by omega), h7 j hj, wd_append_right (by simp; omega), wd_drop, show i + m + (j - (List.take i l ++ l2).length) = j from by simp; omega]

/-- A slice of words that the call made. -/
def Own (T : TypeId) (w : World) (base : Nat) (v : Value) (l : List Nat) : Prop :=
  (v = .slice none 0 0 ∧ l = []) ∨ ∃ b o n c, v = .slice (some ⟨b, o, none⟩) n c ∧ base ≤ b ∧ Ar T w b o n c l
theorem Own.rd {T : TypeId} {w : World} {base : Nat} {v : Value} {l : List Nat} (h : Own T w base v l) : ∃ A n c, v = .slice A n c ∧ Rd w A n c l := by
  rcases h with ⟨rfl, rfl⟩ | ⟨b, o, n, c, rfl, _, h⟩
  · exact ⟨none, 0, 0, rfl, Rd.nil w⟩
  · exact ⟨_, n, c, rfl, h.rd⟩
theorem Own.below {T : TypeId} {w w1 : World} {base : Nat} {v : Value} {l : List Nat} (h : Own T w base v l) (hb : Below w.heap.size w w1) : Own T w1 base v l := by
  rcases h with ⟨rfl, rfl⟩ | ⟨b, o, n, c, rfl, h0, h⟩
  · exact .inl ⟨rfl, rfl⟩
  · exact .inr ⟨b, o, n, c, rfl, h0, h.below hb⟩
theorem Own.mono {T : TypeId} {w : World} {base base' : Nat} {v : Value} {l : List Nat} (h : Own T w base v l) (hb : base' ≤ base) : Own T w base' v l := by
  rcases h with ⟨rfl, rfl⟩ | ⟨b, o, n, c, rfl, h0, h⟩
  · exact .inl ⟨rfl, rfl⟩
  · exact .inr ⟨b, o, n, c, rfl, by omega, h⟩
theorem Own.nil (T : TypeId) (w : World) (base : Nat) : Own T w base (.slice none 0 0) [] := .inl ⟨rfl, rfl⟩

/-- What append's and make's laws say of a row, in our words. -/
def u32s (l : List Nat) : List Value := l.map fun x => .int .u32 (x : Nat)
theorem u32s_get (l : List Nat) (j : Nat) (h : j < l.length) : (u32s l)[j]? = some (.int .u32 (wd l j : Nat)) := by
  simp [u32s, wd, h]
theorem u32s_one (l : List Nat) : ∀ u ∈ u32s l, u.oneCell' = true := by
  intro u hu
  obtain ⟨x, _, rfl⟩ := List.mem_map.1 hu
  rfl
theorem Own.of_row {T : TypeId} {w : World} {base : Nat} {v : Value} {n : Nat} {l : List Nat} (h : w.ownsRow base T 1 v n (u32s l)) (hl : lim l) (hn : n ≤ 35184372087808) : Own T w base v l := by
  have hlen : l.length = n := by have := h.1; simpa [u32s] using this
  rcases h.2 with ⟨rfl, rfl⟩ | ⟨g, cap, cur, rfl, hg, hh, h1, h2, h3, h4⟩
  · exact .inl ⟨rfl, List.eq_nil_of_length_eq_zero hlen⟩
  · refine .inr ⟨g, 0, n, cap, rfl, hg, cur, hh, by omega, h1, ⟨hn, h2⟩, hlen, hl, fun j hj => ?_⟩
    have := u32s_get l j (by omega)
    rw [← h4, List.getElem?_take, if_pos (by omega)] at this
    rw [Nat.zero_add, ← this]; simp
theorem Own.row {T : TypeId} {w : World} {base b n c : Nat} {l : List Nat} (h : Ar T w b 0 n c l) (hb : base ≤ b) (hs : ∀ cur : Array Value, w.heap[b]? = some (.cells cur T (0, 0)) → cur.size = c) :
    w.ownsRow base T 1 (.slice (some ⟨b, 0, none⟩) n c) n (u32s l) := by
  obtain ⟨cur, h1, h2, h3, h4, h5, h6, h7⟩ := h
  refine ⟨by simp [u32s, h5], .inr ⟨b, c, cur, rfl, hb, h1, h3, h4.2, by rw [hs cur h1]; omega, ?_⟩⟩
  apply List.ext_getElem?
  intro j
  by_cases hj : j < n
  · have := h7 j hj
    rw [Nat.zero_add] at this
    rw [List.getElem?_take, if_pos (by omega), u32s_get l j (by omega), ← this]; simp
  · rw [List.getElem?_take, if_neg (by omega), List.getElem?_eq_none (by simp [u32s]; omega)]
theorem Rd.cells {w : World} {A : Option Addr} {n c : Nat} {l : List Nat} (h : Rd w A n c l) : n = 0 ∨ ∃ ad, A = some ad ∧ ∀ j u, (u32s l)[j]? = some u → w.cell? (ad.add j) = some u := by
  rcases Nat.eq_zero_or_pos n with h0 | h0
  · exact .inl h0
  · obtain ⟨b, o, e, hc⟩ := h.cell h0
    refine .inr ⟨_, e, fun j u hu => ?_⟩
    have hj : j < l.length := by
      have := (List.getElem?_eq_some_iff.1 hu).1
      simpa [u32s] using this
    rw [u32s_get l j hj] at hu
    have ha : (⟨b, o, none⟩ : Addr).add j = ⟨b, o + j, none⟩ := by unfold Addr.add; split <;> simp_all
    rw [ha, hc j (by have := h.len; omega)]
    exact hu

theorem run_append_rd {P : Program} (w : World) (base : Nat) (t ty e : TypeId) (i : TypeInfo) (z : Value) (ht : P.underlying t = some (.slice e)) (hi : P.info? e = some i) (hz : i.zero = some z)
    (hs : i.size = 1) (hby : i.bytes = 4) (hzs : z.cells.size = 1) (v : Value) (n : Nat) (xs : List Value) (hown : w.ownsRow base e 1 v n xs) (A : Option Addr) (m c : Nat) (l : List Nat) (hr : Rd w A m c l)
    (hnm : n + m ≤ 35184372088832) (hbase : base ≤ w.heap.size) :
    ∃ v' w', (Builtin.append_ #[t, t] ty #[v, .slice A m c]).run P w = .ok v' w' ∧ w'.ownsRow base e 1 v' (n + m) (xs ++ u32s l) ∧ w.grownBy w' v.ownBlock := by
  have hl := hr.len
  have hlen : (u32s l).length = m * 1 := by simp [u32s, hl]
  rcases hr.cells with rfl | ⟨ad, rfl, hc⟩
  · obtain rfl : l = [] := List.eq_nil_of_length_eq_zero hl
    rcases A with _ | ad
    · refine ⟨v, w, ?_, by simpa [u32s] using hown, ⟨rfl, rfl, rfl, Nat.le_refl _, fun _ _ _ => rfl⟩⟩
      rcases hown.2 with ⟨rfl, rfl⟩ | ⟨g, cap, cur, rfl, _, _, hnc, _⟩
      · simp [Builtin.append_, run_underlying ht, sizeOf, typeInfo, hi, Builtin.lenOf, Builtin.firstCells]
      · simp [Builtin.append_, run_underlying ht, sizeOf, typeInfo, hi, Builtin.lenOf, Builtin.firstCells, hnc, storeCells]
    · obtain ⟨v', w', h1, h2, h3, _⟩ := run_append_own (P := P) w base t ty e i z 1 4 ht hi hz hs hby hzs (by omega) v n xs hown ad 0 c (u32s []) hlen (by simp [u32s]) (u32s_one _) (by unfold maxLen; omega) (by omega) hbase
      exact ⟨v', w', h1, h2, h3⟩
  · obtain ⟨v', w', h1, h2, h3, _⟩ := run_append_own (P := P) w base t ty e i z 1 4 ht hi hz hs hby hzs (by omega) v n xs hown ad m c (u32s l) hlen hc (u32s_one _) (by unfold maxLen; omega) (by omega) hbase
    exact ⟨v', w', h1, h2, h3⟩

theorem wpList_append_rd {P : Program} (w : World) {ops : Array Oper} {rest : List Oper} {o : Oper} {a : Act} {Q : Exit → Act → World → Prop} (hgd : o.guard = none) (s x : Operand) (t : TypeId)
    (ho : o.op = .call { callee := .builtin .append, args := #[s, x], argTypes := #[t, t] })
    (base : Nat) (e : TypeId) (i : TypeInfo) (z : Value) (ht : P.underlying t = some (.slice e)) (hi : P.info? e = some i) (hz : i.zero = some z)
    (hsz : i.size = 1) (hby : i.bytes = 4) (hzs : z.cells.size = 1) (v : Value) (n : Nat) (xs : List Value) (hs : a.eval s = v) (hown : w.ownsRow base e 1 v n xs)
    (A : Option Addr) (m c : Nat) (l : List Nat) (hx : a.eval x = .slice A m c) (hr : Rd w A m c l) (hnm : n + m ≤ 35184372088832) (hbase : base ≤ w.heap.size)
    (h : ∀ v' w', w'.ownsRow base e 1 v' (n + m) (xs ++ u32s l) → w.grownBy w' v.ownBlock → wpList P ops Q rest (a.put o.dst v') w') : wpList P ops Q (o :: rest) a w :=
  wpList_plain hgd fun _ hK => by
    obtain ⟨v', w', hrun, h2, h3⟩ := run_append_rd (P := P) w base t o.type e i z ht hi hz hsz hby hzs v n xs hown A m c l hr hnm hbase
    unfold Oper.wp execOp
    simp only [ho, resolve, invoke, builtin, Sem.run_bind, Sem.run_pure, Result.andThen_ok, List.map_toArray, List.map_cons, List.map_nil, hs, hx, hrun]
    exact hK _ _ (h v' w' h2 h3)

theorem or_join (a b : Nat) (ha : a < 4294967296) (hb : b < 4294967296) : bits .or .u64 (a : Int) ((b : Int) * 4294967296) = ((a + 4294967296 * b : Nat) : Int) := by
  have h := u64_or_nat a (b * 4294967296) (by omega) (by omega)
  have e : ((b * 4294967296 : Nat) : Int) = (b : Int) * 4294967296 := by omega
  rw [e] at h
  rw [h, Nat.or_comm, Nat.mul_comm b, show (4294967296 : Nat) = 2 ^ 32 from rfl, ← Nat.two_pow_add_eq_or_of_lt (by omega) b, Nat.add_comm]
theorem or_join' (a b : Nat) (ha : a < 4294967296) (hb : b < 4294967296) : bits .or .u64 ((b : Int) * 4294967296) (a : Int) = ((a + 4294967296 * b : Nat) : Int) := by
  have h := u64_or_nat (b * 4294967296) a (by omega) (by omega)
  have e : ((b * 4294967296 : Nat) : Int) = (b : Int) * 4294967296 := by omega
  rw [e] at h
  rw [h, Nat.mul_comm b, show (4294967296 : Nat) = 2 ^ 32 from rfl, ← Nat.two_pow_add_eq_or_of_lt (by omega) b, Nat.add_comm]

/-- n noughts -/
def zeros (n : Nat) : Array Value := Array.replicate n (.int .u32 0)
theorem madeCells_one (z : Value) (n : Nat) : madeCells #[z] n = Array.replicate n z := by
  apply Array.toList_inj.1
  rw [toList_madeCells_one]; simp
theorem run_make_u32 {P : Program} (t e : TypeId) (i : TypeInfo) (ht : P.underlying t = some (.slice e)) (hi : P.info? e = some i) (hz : i.zero = some (.int .u32 0)) (hs : i.size = 1) (hb : i.bytes = 4) (n : Nat) (z : Int) (hzn : z = n) (hn : n ≤ 70368744177664) (w : World) :
    (Instr.makeSlice t (.int .i64 z) (.int .i64 z)).run P w = .ok (.slice (some ⟨w.heap.size, 0, none⟩) n n) (w.alloc (.cells (zeros n) e)) := by
  subst hzn
  have hbb : (i.bytes : Int) * (n : Int) ≤ 281474976710656 := by rw [hb]; omega
  have hr := run_make (P := P) w t e i (.int .u32 0) ht hi hz .i64 .i64 n n (by omega) (by omega) hbb (by omega)
  simp only [Int.toNat_natCast] at hr
  rw [hs, Nat.mul_one] at hr
  rw [hr]
  simp only [Value.cells, madeCells_one]
  rfl
theorem ar_zeros (T : TypeId) (w : World) (n : Nat) (hn : n ≤ 35184372087808) : Ar T (w.alloc (.cells (zeros n) T)) w.heap.size 0 n n (List.replicate n 0) :=
  ⟨_, heap_alloc_new w _, by simp [zeros], Nat.le_refl _, ⟨hn, by unfold maxLen; omega⟩, by simp, lim_replicate n, fun j hj => by
    rw [wd_replicate]; simp [zeros, hj]⟩
/-- What was read before a block of ours was written. -/
theorem Rd.mod {w w0 w1 : World} {A : Option Addr} {n c g lo hi : Nat} {l : List Nat} (h : Rd w A n c l) (hb : Below w.heap.size w w0) (hm : Mod g lo hi w0 w1) (hg : w.heap.size ≤ g) : Rd w1 A n c l :=
  hm.rd (h.below hb) fun hn b' o e => by
    subst e
    have := h.block hn
    omega

/-! a word less a word less one borrowed, in 64 bits -/
theorem wrap_u64' (n : Int) : IntKind.u64.wrap n = n % 18446744073709551616 := by simp [IntKind.wrap, IntKind.bits, IntKind.signed]
theorem sub2_lo (dx c dy : Nat) (h1 : dx < 4294967296) (h2 : c ≤ 1) (h3 : dy < 4294967296) (h : dx < c + dy) :
    IntKind.u64.wrap (IntKind.u64.wrap ((dx : Int) - c) - dy) % 4294967296 = ((4294967296 + dx - c - dy : Nat) : Int) := by
  rw [wrap_u64', wrap_u64']; omega
theorem sub2_hi (dx c dy : Nat) (h1 : dx < 4294967296) (h2 : c ≤ 1) (h3 : dy < 4294967296) (h : dx < c + dy) :
    IntKind.u64.wrap (IntKind.u64.wrap ((dx : Int) - c) - dy) / 9223372036854775808 = ((1 : Nat) : Int) := by
  rw [wrap_u64', wrap_u64']; omega
theorem sub1_lo (dx c : Nat) (h1 : dx < 4294967296) (h2 : c ≤ 1) (h : dx < c) : IntKind.u64.wrap ((dx : Int) - c) % 4294967296 = ((4294967296 + dx - c : Nat) : Int) := by
  rw [wrap_u64']; omega
theorem sub1_hi (dx c : Nat) (h1 : dx < 4294967296) (h2 : c ≤ 1) (h : dx < c) : IntKind.u64.wrap ((dx : Int) - c) / 9223372036854775808 = ((1 : Nat) : Int) := by
  rw [wrap_u64']; omega
theorem sub_plain (dx c dy : Nat) (h : c + dy ≤ dx) : (dx : Int) - c - dy = ((dx - c - dy : Nat) : Int) := by omega
theorem sub_plain1 (dx c : Nat) (h : c ≤ dx) : (dx : Int) - c = ((dx - c : Nat) : Int) := by omega
theorem sub_top (a : Nat) (h : a < 4294967296) : (a : Int) / 9223372036854775808 = ((0 : Nat) : Int) := by omega
theorem wd_set_later {l l' : List Nat} {k : Nat} (x : Nat) (h : ∀ j, k ≤ j → wd l j = wd l' j) : ∀ j, k + 1 ≤ j → wd (l.set k x) j = wd l' j := fun j hj => by
  rw [wd_set_ne _ (by omega)]; exact h j (by omega)

theorem mul_int {a b : Nat} (ha : a < 4294967296) (hb : b < 4294967296) : (0 : Int) ≤ (a : Int) * b ∧ (a : Int) * b ≤ 18446744065119617025 := by
  have h1 : a * b ≤ 4294967295 * 4294967295 := Nat.mul_le_mul (by omega) (by omega)
  have h2 : ((a * b : Nat) : Int) = (a : Int) * b := by simp
  omega
theorem mul_lo (a b o c : Nat) : ((c : Int) + ((a : Int) * b + o)) % 4294967296 = (((a * b + o + c) % 4294967296 : Nat) : Int) := by
  have h2 : ((a * b : Nat) : Int) = (a : Int) * b := by simp
  omega
theorem mul_hi (a b o c : Nat) : ((c : Int) + ((a : Int) * b + o)) / 4294967296 = (((a * b + o + c) / 4294967296 : Nat) : Int) := by
  have h2 : ((a * b : Nat) : Int) = (a : Int) * b := by simp
  omega

theorem sub3_lo (dx c dy : Nat) (_h1 : dx < 4294967296) (h2 : c + dy ≤ 4294967296 + dx) (h : dx < c + dy) :
    IntKind.u64.wrap (IntKind.u64.wrap ((dx : Int) - c) - dy) % 4294967296 = ((4294967296 + dx - c - dy : Nat) : Int) := by
  rw [wrap_u64', wrap_u64']; omega
theorem sub3_hi (dx c dy : Nat) (_h1 : dx < 4294967296) (h2 : c + dy ≤ 4294967296 + dx) (h : dx < c + dy) :
    IntKind.u64.wrap (IntKind.u64.wrap ((dx : Int) - c) - dy) / 9223372036854775808 = ((1 : Nat) : Int) := by
  rw [wrap_u64', wrap_u64']; omega
theorem muladd_lo (a b c : Nat) : ((c : Int) + (a : Int) * b) % 4294967296 = (((c + a * b) % 4294967296 : Nat) : Int) := by
  have h2 : ((a * b : Nat) : Int) = (a : Int) * b := by simp
  omega
theorem muladd_hi (a b c : Nat) : ((c : Int) + (a : Int) * b) / 4294967296 = (((c + a * b) / 4294967296 : Nat) : Int) := by
  have h2 : ((a * b : Nat) : Int) = (a : Int) * b := by simp
  omega

/-- not nil, where there are words -/
theorem Own.pos {T : TypeId} {w : World} {base : Nat} {v : Value} {x : Nat} (h : Own T w base v (wds x)) (hx : 0 < wl x) : ∃ b o c, v = .slice (some ⟨b, o, none⟩) (wl x) c ∧ base ≤ b ∧ Ar T w b o (wl x) c (wds x) := by
  rcases h with ⟨_, h⟩ | ⟨b, o, n, c, rfl, hb, h⟩
  · rw [wl, h] at hx
    exact absurd hx (by simp)
  · obtain rfl : n = wl x := h.len.symm
    exact ⟨b, o, c, rfl, hb, h⟩

theorem Ar.other {T : TypeId} {w : World} {b o n c : Nat} {l : List Nat} (h : Ar T w b o n c l) (p : Addr) (v : Value) (hne : b ≠ p.block) : Ar T (w.setCell p v) b o n c l :=
  h.of_block (Below.heap_setCell _ _ _ _ hne)
end Go.Proofs.YtcbkijeonilcjaaGreat

/- The numbers behind division. -/
namespace Go.Proofs.YtcbkijeonilcjaaGreat

theorem val_take_succ (l : List Nat) (k : Nat) : val (l.take (k + 1)) = val (l.take k) + 4294967296 ^ k * wd l k := by
  rcases Nat.lt_or_ge k l.length with h | h
  · rw [take_succ_wd _ _ h, val_append, List.length_take, Nat.min_eq_left (by omega)]; simp [val]
  · rw [List.take_of_length_le (by omega), List.take_of_length_le h, wd_out h]; omega
theorem val_drop_succ (l : List Nat) (k : Nat) : val (l.drop k) = wd l k + 4294967296 * val (l.drop (k + 1)) := by
  rcases Nat.lt_or_ge k l.length with h | h
  · rw [List.drop_eq_getElem_cons h, val]; simp [wd, h]
  · rw [List.drop_eq_nil_of_le h, List.drop_eq_nil_of_le (by omega), wd_out h]; simp [val]
theorem val_split (l : List Nat) (k : Nat) (h : k ≤ l.length) : val l = val (l.take k) + 4294967296 ^ k * val (l.drop k) := by
  conv => lhs; rw [← List.take_append_drop k l, val_append, List.length_take, Nat.min_eq_left h]
theorem val_take_lt {l : List Nat} (h : lim l) (k : Nat) : val (l.take k) < 4294967296 ^ k :=
  Nat.lt_of_lt_of_le (val_lt (lim_take h k)) (Nat.pow_le_pow_right (by omega) (by rw [List.length_take]; omega))

/-! ### by one word -/
def smallAt (x d k r : Nat) (l : List Nat) : Prop := r < d ∧ x / 4294967296 ^ k = d * val (l.drop k) + r ∧ ∀ j, j < k → wd l j = wd (wds x) j
theorem smallAt_start {x d n : Nat} (hd : 0 < d) (hx : wl x = n) : smallAt x d n 0 (wds x) :=
  ⟨hd, by rw [List.drop_eq_nil_of_le (by rw [wl_def]; omega), Nat.div_eq_of_lt (wl_le.1 (by omega))]; simp [val], fun _ _ => rfl⟩
theorem smallAt_step {x d k r : Nat} {l : List Nat} (h : smallAt x d (k + 1) r l) (hk : k < l.length) :
    smallAt x d k ((r * 4294967296 + wd l k) % d) (l.set k ((r * 4294967296 + wd l k) / d)) := by
  obtain ⟨hr, h, hl⟩ := h
  refine ⟨Nat.mod_lt _ (by omega), ?_, fun j hj => ?_⟩
  · rw [div_step, h, val_drop_succ (l.set k _) k, wd_set_eq _ hk, List.drop_set_of_lt (by omega), ← wd_wds, ← hl k (by omega)]
    have e := Nat.div_add_mod (r * 4294967296 + wd l k) d
    generalize (r * 4294967296 + wd l k) / d = q at *
    generalize (r * 4294967296 + wd l k) % d = t at *
    grind
  · rw [wd_set_ne _ (by omega)]; exact hl j (by omega)
theorem smallAt_end {x d r : Nat} {l : List Nat} (h : smallAt x d 0 r l) : val l = x / d ∧ r = x % d := by
  obtain ⟨hr, h, _⟩ := h
  simp at h
  rw [h]
  constructor
  · rw [Nat.mul_add_div (by omega), Nat.div_eq_of_lt hr]; omega
  · rw [Nat.mul_add_mod, Nat.mod_eq_of_lt hr]
theorem small_word {r d w : Nat} (hr : r < d) (hw : w < 4294967296) : (r * 4294967296 + w) / d < 4294967296 := by
  rw [Nat.div_lt_iff_lt_mul (by omega)]
  have : (r + 1) * 4294967296 ≤ d * 4294967296 := Nat.mul_le_mul_right _ (by omega)
  omega

/-! ### shifts by less than a word -/
def upAt (x n k : Nat) (l : List Nat) : Prop := val (l.take (k + 1)) = (x % 4294967296 ^ k) * 2 ^ n ∧ wd l k < 2 ^ n
theorem upAt_zero (x n m : Nat) : upAt x n 0 (List.replicate m 0) := by
  refine ⟨?_, by rw [wd_replicate]; exact Nat.pow_pos (by omega)⟩
  rw [List.take_replicate, val_replicate, Nat.pow_zero, Nat.mod_one]; omega
theorem up_word {n w o : Nat} (hn : n < 32) (hw : w < 4294967296) (ho : o < 2 ^ n) : (w * 2 ^ n % 4294967296 ||| o) = w * 2 ^ n % 4294967296 + o ∧ w * 2 ^ n % 4294967296 + o < 4294967296 ∧ w * 2 ^ n / 4294967296 < 2 ^ n := by
  have e : (4294967296 : Nat) = 2 ^ n * 2 ^ (32 - n) := by rw [← Nat.pow_add, show n + (32 - n) = 32 from by omega]
  have h1 : w * 2 ^ n % 4294967296 = 2 ^ n * (w % 2 ^ (32 - n)) := by
    rw [e, Nat.mul_comm w, Nat.mul_mod_mul_left]
  have h2 : w % 2 ^ (32 - n) < 2 ^ (32 - n) := Nat.mod_lt _ (Nat.pow_pos (by omega))
  refine ⟨?_, ?_, ?_⟩
  · rw [h1, ← Nat.two_pow_add_eq_or_of_lt ho]
  · have : 2 ^ n * (w % 2 ^ (32 - n) + 1) ≤ 2 ^ n * 2 ^ (32 - n) := Nat.mul_le_mul_left _ h2
    rw [h1]
    rw [Nat.mul_add] at this
    omega
  · rw [Nat.div_lt_iff_lt_mul (by omega), Nat.mul_comm (2 ^ n)]
    exact Nat.mul_lt_mul_of_pos_right hw (Nat.pow_pos (by omega))
theorem upAt_step {x n k : Nat} {l : List Nat} (h : upAt x n k l) (hn : n < 32) (hk : k + 1 < l.length) :
    upAt x n (k + 1) ((l.set k (wd (wds x) k * 2 ^ n % 4294967296 + wd l k)).set (k + 1) (wd (wds x) k * 2 ^ n / 4294967296)) := by
  have hw := wd_lt (lim_wds x) k
  obtain ⟨h, ho⟩ := h
  have hu := up_word hn hw ho
  refine ⟨?_, ?_⟩
  · rw [val_take_set _ _ _ (by simp; omega), val_take_set _ _ _ (by omega), mod_wd]
    rw [val_take_succ] at h
    generalize wd (wds x) k = w at *
    have e := Nat.div_add_mod (w * 2 ^ n) 4294967296
    generalize w * 2 ^ n / 4294967296 = q at *
    generalize w * 2 ^ n % 4294967296 = r at *
    generalize 2 ^ n = N at *
    rw [Nat.pow_succ]
    generalize 4294967296 ^ k = P at *
    grind
  · rw [wd_set_eq _ (by simp; omega)]; exact hu.2.2
theorem upAt_end {x n k : Nat} {l : List Nat} (h : upAt x n k l) (hx : wl x ≤ k) (hl : l.length = k + 1) : val l = x * 2 ^ n := by
  have := h.1
  rwa [mod_top hx, List.take_of_length_le (by omega)] at this

def downAt (x n k : Nat) (l : List Nat) : Prop := val (l.take k) = x / 2 ^ n % 4294967296 ^ k ∧ ∀ j, k ≤ j → wd l j = wd (wds x) j
theorem downAt_zero (x n : Nat) : downAt x n 0 (wds x) := ⟨by simp [val, Nat.mod_one], fun _ _ => rfl⟩
theorem down_word (x n k : Nat) (hn : n < 32) : (wd (wds x) k + 4294967296 * wd (wds x) (k + 1)) / 2 ^ n % 4294967296 = x / 2 ^ n / 4294967296 ^ k % 4294967296 := by
  have e1 : x / 4294967296 ^ (k + 1) = x / 4294967296 ^ k / 4294967296 := by rw [Nat.pow_succ, Nat.div_div_eq_div_mul]
  have e2 : x / 2 ^ n / 4294967296 ^ k = x / 4294967296 ^ k / 2 ^ n := by rw [Nat.div_div_eq_div_mul, Nat.mul_comm, ← Nat.div_div_eq_div_mul]
  rw [wd_wds, wd_wds, e1, e2]
  generalize x / 4294967296 ^ k = y
  have e : y % 4294967296 + 4294967296 * (y / 4294967296 % 4294967296) = y % (4294967296 * 4294967296) := (Nat.mod_mul ..).symm
  rw [e]
  have e2 : (4294967296 * 4294967296 : Nat) = 2 ^ n * (4294967296 * 2 ^ (32 - n)) := by
    rw [Nat.mul_left_comm, ← Nat.pow_add, show n + (32 - n) = 32 from by omega]
  rw [e2, Nat.mod_mul_right_div_self, Nat.mod_mul_right_mod]
theorem downAt_step {x n k : Nat} {l : List Nat} (h : downAt x n k l) (hn : n < 32) (hk : k < l.length) :
    downAt x n (k + 1) (l.set k ((wd (wds x) k + 4294967296 * wd (wds x) (k + 1)) / 2 ^ n % 4294967296)) := by
  obtain ⟨h, hl⟩ := h
  refine ⟨?_, fun j hj => ?_⟩
  · rw [val_take_set _ _ _ hk, h, down_word x n k hn, mod_succ]
  · rw [wd_set_ne _ (by omega)]; exact hl j (by omega)
theorem downAt_end {x n : Nat} {l : List Nat} (h : downAt x n l.length l) (hx : wl x ≤ l.length) : val l = x / 2 ^ n := by
  have := h.1
  rwa [List.take_length, Nat.mod_eq_of_lt (Nat.lt_of_le_of_lt (Nat.div_le_self _ _) (wl_le.1 hx))] at this
theorem val_take_of_lt {l : List Nat} {k : Nat} (hk : k ≤ l.length) (h : val l < 4294967296 ^ k) : val (l.take k) = val l := by
  have hs := val_split l k hk
  rcases Nat.eq_zero_or_pos (val (l.drop k)) with h0 | h0
  · rw [h0] at hs; omega
  · have : 4294967296 ^ k * 1 ≤ 4294967296 ^ k * val (l.drop k) := Nat.mul_le_mul_left _ h0
    omega
end Go.Proofs.YtcbkijeonilcjaaGreat
