/- Package ratio: lowest terms, sums, products, comparing. -/
import Derived.Test.YtcbkijeonilcjaaGreatHC7
import Derived.Test.YtcbkijeonilcjaaGreatHC8
import Derived.Test.YtcbkijeonilcjaaGreatHC9
namespace Go.Proofs.YtcbkijeonilcjaaGreat
open Go.RowKit

/-- made by the call, in a block from lo on and below hi -/
def OwnR (T : TypeId) (w : World) (lo hi : Nat) (v : Value) (l : List Nat) : Prop :=
  (v = .slice none 0 0 ∧ l = []) ∨ ∃ b o n c, v = .slice (some ⟨b, o, none⟩) n c ∧ lo ≤ b ∧ b < hi ∧ Ar T w b o n c l
theorem Own.toR {T : TypeId} {w : World} {lo : Nat} {v : Value} {l : List Nat} (h : Own T w lo v l) : OwnR T w lo w.heap.size v l := by
  rcases h with h | ⟨b, o, n, c, rfl, hb, hA⟩
  · exact .inl h
  · exact .inr ⟨b, o, n, c, rfl, hb, hA.lt, hA⟩
theorem OwnR.own {T : TypeId} {w : World} {lo hi : Nat} {v : Value} {l : List Nat} (h : OwnR T w lo hi v l) : Own T w lo v l := by
  rcases h with h | ⟨b, o, n, c, rfl, hb, _, hA⟩
  · exact .inl h
  · exact .inr ⟨b, o, n, c, rfl, hb, hA⟩
theorem OwnR.mono {T : TypeId} {w : World} {lo hi lo' hi' : Nat} {v : Value} {l : List Nat} (h : OwnR T w lo hi v l) (h1 : lo' ≤ lo) (h2 : hi ≤ hi') : OwnR T w lo' hi' v l := by
  rcases h with h | ⟨b, o, n, c, rfl, hb, hb2, hA⟩
  · exact .inl h
  · exact .inr ⟨b, o, n, c, rfl, by omega, by omega, hA⟩
theorem OwnR.below {T : TypeId} {w w1 : World} {lo hi : Nat} {v : Value} {l : List Nat} (h : OwnR T w lo hi v l) (hb : Below w.heap.size w w1) : OwnR T w1 lo hi v l := by
  rcases h with h | ⟨b, o, n, c, rfl, hb1, hb2, hA⟩
  · exact .inl h
  · exact .inr ⟨b, o, n, c, rfl, hb1, hb2, hA.below hb⟩

/-- the value of a fraction -/
def rtV (g : Bool) (vn vd : Value) : Value := .agg #[.bool g, vn, vd]
/-- a fraction is read -/
def RtR (w : World) (v : Value) (r : Rat) : Prop :=
  ∃ A c A' c', v = .agg #[.bool (rneg r), .slice A (wl (rnum r)) c, .slice A' (wl r.den) c'] ∧ Rd w A (wl (rnum r)) c (wds (rnum r)) ∧ Rd w A' (wl r.den) c' (wds r.den)
/-- a fraction made by the call, its lists apart -/
def RtO (T : TypeId) (w : World) (lo hi : Nat) (v : Value) (r : Rat) : Prop :=
  ∃ vn vd m, v = .agg #[.bool (rneg r), vn, vd] ∧ lo ≤ m ∧ m ≤ hi ∧ OwnR T w lo m vn (wds (rnum r)) ∧ OwnR T w m hi vd (wds r.den)
theorem RtO.rd {T : TypeId} {w : World} {lo hi : Nat} {v : Value} {r : Rat} (h : RtO T w lo hi v r) : RtR w v r := by
  obtain ⟨vn, vd, m, rfl, _, _, h1, h2⟩ := h
  obtain ⟨A, c, rfl, h3⟩ := h1.own.wl0
  obtain ⟨A', c', rfl, h4⟩ := h2.own.wl0
  exact ⟨A, c, A', c', rfl, h3, h4⟩
theorem RtO.below {T : TypeId} {w w1 : World} {lo hi : Nat} {v : Value} {r : Rat} (h : RtO T w lo hi v r) (hb : Below w.heap.size w w1) : RtO T w1 lo hi v r := by
  obtain ⟨vn, vd, m, rfl, a, b, h1, h2⟩ := h
  exact ⟨vn, vd, m, rfl, a, b, h1.below hb, h2.below hb⟩
theorem RtO.mono {T : TypeId} {w : World} {lo hi lo' hi' : Nat} {v : Value} {r : Rat} (h : RtO T w lo hi v r) (h1 : lo' ≤ lo) (h2 : hi ≤ hi') : RtO T w lo' hi' v r := by
  obtain ⟨vn, vd, m, rfl, a, b, h3, h4⟩ := h
  exact ⟨vn, vd, m, rfl, by omega, by omega, h3.mono h1 (Nat.le_refl _), h4.mono (Nat.le_refl _) h2⟩
theorem RtR.below {w w1 : World} {v : Value} {r : Rat} (h : RtR w v r) (hb : Below w.heap.size w w1) : RtR w1 v r := by
  obtain ⟨A, c, A', c', rfl, h1, h2⟩ := h
  exact ⟨A, c, A', c', rfl, h1.below hb, h2.below hb⟩
theorem RtR.drewN {w : World} {v : Value} {r : Rat} (h : RtR w v r) (n : Nat) : RtR (w.drewN n) v r := h.below (below_drewN (Below.refl _ _) n)

/-- the zero value -/
def rt0 : Value := .agg #[.bool false, .slice none 0 0, .slice none 0 0]
/-- an answer that may be too long -/
def RtA (T : TypeId) (w : World) (lo : Nat) (v : Value) (e : Int) (q : Rat) : Prop :=
  (fits q ∧ e = 0 ∧ RtO T w lo w.heap.size v q) ∨ (¬ fits q ∧ e = 3 ∧ v = rt0)

theorem cell3 {w : World} {b : Nat} {x y z : Value} {T : TypeId} (h : w.heap[b]? = some (.cells #[x, y, z] T)) :
    w.cell? ⟨b, 0, none⟩ = some x ∧ w.cell? ⟨b, 1, none⟩ = some y ∧ w.cell? ⟨b, 2, none⟩ = some z ∧ w.frozen? ⟨b, 0, none⟩ = false ∧ w.frozen? ⟨b, 1, none⟩ = false ∧ w.frozen? ⟨b, 2, none⟩ = false := by
  refine ⟨?_, ?_, ?_, ?_, ?_, ?_⟩ <;> simp [World.cell?, World.frozen?, h]

theorem OwnR.setc {T : TypeId} {w : World} {lo hi : Nat} {v : Value} {l : List Nat} (h : OwnR T w lo hi v l) {a : Addr} {u : Value} (ha : a.block < lo) : OwnR T (w.setCell a u) lo hi v l := by
  rcases h with h | ⟨b, o, n, c, rfl, hb, hb2, hA⟩
  · exact .inl h
  · exact .inr ⟨b, o, n, c, rfl, hb, hb2, hA.other a u (by omega)⟩
theorem wl_pos_iff {x : Nat} : 0 < wl x ↔ 0 < x := by
  have := @wl_eq_zero x; omega

set_option maxHeartbeats 1000000 in
theorem ratio_lowest (g : Bool) (A A' : Option Addr) (c c' x y : Nat) (w : World) (h : Rd w A (wl x) c (wds x)) (h' : Rd w A' (wl y) c' (wds y)) (hx : wl x ≤ 8192) (hy : wl y ≤ 8192) (hy0 : 0 < y) :
    Calls Tryz.prog 222 #[.bool g, .slice A (wl x) c, .slice A' (wl y) c'] w fun e w' => ∃ v k, e = .returned (.tuple #[v, .int .i64 k]) ∧ RtA 116 w' w.heap.size v k (frac g x y) ∧ Below w.heap.size w w' := by
  have hgp : Hid (0 < Nat.gcd x y) := Nat.gcd_pos_of_pos_right x hy0
  have hgl : wl (Nat.gcd x y) ≤ 8192 := Nat.le_trans (wl_mono (Nat.le_of_dvd hy0 (Nat.gcd_dvd_right x y))) hy
  have Hy0 := Lib.hid hy0
  clear hy0
  go_enter Tryz.func222, Tryz.ntmps222
  go_wp2_with fail
  refine (nat_Gcd A A' c c' x y _ (h.below ((Below.refl _ _).alloc (Nat.le_refl _) _)) (h'.below ((Below.refl _ _).alloc (Nat.le_refl _) _)) hx hy).mono ?_
  rintro e w1 ⟨vg, rfl, hOg, hB1⟩
  obtain ⟨Ag, cg, rfl, hRg⟩ := hOg.wl0
  have hb0 : Below w.heap.size w (w.alloc (.cells #[.bool false, .slice none 0 0, .slice none 0 0] 24)) := (Below.refl _ _).alloc (Nat.le_refl _) _
  have hb1 : Below w.heap.size w w1 := hb0.trans (hB1.mono (by simp))
  go_wp2_with fail
  refine (nat_DivMod A Ag c cg x (Nat.gcd x y) _ (h.below hb1) hRg hx hgl hgp.out).mono ?_
  rintro e w2 ⟨vn, vr, rfl, hOn, hOr, hB2⟩
  go_wp2_with fail
  refine (nat_DivMod A' Ag c' cg y (Nat.gcd x y) _ ((h'.below hb1).below hB2) (hRg.below hB2) hy hgl hgp.out).mono ?_
  rintro e w3 ⟨vd, vr2, rfl, hOd, hOr2, hB3⟩
  have hs1 : w.heap.size < w1.heap.size := by have := hB1.size; simp at this; omega
  have hs2 := hB2.size
  have hW : w3.heap[w.heap.size]? = some (.cells #[.bool false, .slice none 0 0, .slice none 0 0] 24) := by
    rw [hB3.block _ (by omega), hB2.block _ (by omega), hB1.block _ (by simp)]
    exact heap_alloc_new w _
  obtain ⟨c0, c1, c2, f0, f1, f2⟩ := cell3 hW
  obtain ⟨An, cn, rfl, hRn⟩ := hOn.wl0
  obtain ⟨Ad, cd, rfl, hRd⟩ := hOd.wl0
  go_wp2_with fail
  refine (ratio_long An _ cn _).mono ?_
  rintro e w3 ⟨rfl, rfl⟩
  have HB := Lib.hid (show Below w.heap.size w w3 from hb1.trans ((hB2.mono hb1.size).trans (hB3.mono (Nat.le_trans hb1.size hB2.size))))
  have hlo : w.heap.size < w2.heap.size := by omega
  have hs3 := hB3.size
  have HO := Lib.hid (And.intro (hOn.toR.below hB3) hOd.toR)
  have HN := Lib.hid (frac_num g x Hy0.out)
  have HD := Lib.hid (frac_den g x Hy0.out)
  have HNeg := Lib.hid (frac_neg g x Hy0.out)
  clear hB1 hB2 hB3 hOn hOd hOr hOr2 hRn hRd hRg hOg hb0 hb1 hW
  by_cases h1 : 2048 < wl (x / Nat.gcd x y)
  · have e1 : ((2048 : Int) < (wl (x / Nat.gcd x y) : Int)) = True := by simp; omega
    have HF : Hid (¬ fits (frac g x y)) := fun hf => by have := hf.1; rw [HN.out] at this; omega
    clear h1
    go_wp2_with fail
    exact bodyPost_ret (v := .tuple #[rt0, .int .i64 3]) (by simp [rt0, results, Tryz.results222, go_sem, c0, c1, c2]) rfl ⟨_, _, rfl, .inr ⟨HF.out, rfl, rfl⟩, ((HB.out.setCell (Nat.le_refl _) _).setCell (Nat.le_refl _) _).setCell (Nat.le_refl _) _⟩
  · have e1 : ((2048 : Int) < (wl (x / Nat.gcd x y) : Int)) = False := by simp; omega
    go_wp2_with fail
    refine (ratio_long Ad _ cd _).mono ?_
    rintro e w3 ⟨rfl, rfl⟩
    by_cases h2 : 2048 < wl (y / Nat.gcd x y)
    · have e2 : ((2048 : Int) < (wl (y / Nat.gcd x y) : Int)) = True := by simp; omega
      have HF : Hid (¬ fits (frac g x y)) := fun hf => by have := hf.2; rw [HD.out] at this; omega
      clear h2
      go_wp2_with fail
      exact bodyPost_ret (v := .tuple #[rt0, .int .i64 3]) (by simp [rt0, results, Tryz.results222, go_sem, c0, c1, c2]) rfl ⟨_, _, rfl, .inr ⟨HF.out, rfl, rfl⟩, ((HB.out.setCell (Nat.le_refl _) _).setCell (Nat.le_refl _) _).setCell (Nat.le_refl _) _⟩
    · have e2 : ((2048 : Int) < (wl (y / Nat.gcd x y) : Int)) = False := by simp; omega
      have HF : Hid (fits (frac g x y)) := by
        show fits (frac g x y)
        exact ⟨by rw [HN.out]; omega, by rw [HD.out]; omega⟩
      clear h1 h2
      obtain ⟨q, hq⟩ : ∃ q, q = (g && decide (0 < wl (x / Nat.gcd x y))) := ⟨_, rfl⟩
      have hqq : Hid (rneg (frac g x y) = q) := by
        show rneg (frac g x y) = q
        rw [HNeg.out, hq]; congr 2; exact propext wl_pos_iff.symm
      rcases g with _ | _
      · have HQ : Hid (q = false) := hq
        clear hq
        go_wp2_with fail
        exact bodyPost_ret (v := .tuple #[.agg #[.bool false, .slice An (wl (x / Nat.gcd x y)) cn, .slice Ad (wl (y / Nat.gcd x y)) cd], .int .i64 0]) (by simp [results, Tryz.results222, go_sem, c0, c1, c2]) rfl ⟨_, _, rfl, .inl ⟨HF.out, rfl, _, _, w2.heap.size, by rw [hqq.out, HQ.out], Nat.le_of_lt hlo, by simpa using hs3, by rw [HN.out]; exact ((((HO.out.1).setc hs1).setc hs1).setc hs1).mono (Nat.le_of_lt hs1) (Nat.le_refl _), by rw [HD.out]; exact ((((HO.out.2).setc hlo).setc hlo).setc hlo).mono (Nat.le_refl _) (by simp)⟩, ((HB.out.setCell (Nat.le_refl _) _).setCell (Nat.le_refl _) _).setCell (Nat.le_refl _) _⟩
      · have HQ : Hid (q = decide (0 < wl (x / Nat.gcd x y))) := by show q = _; rw [hq]; simp
        clear hq
        go_wp2_with fail
        exact bodyPost_ret (v := .tuple #[.agg #[.bool (decide (0 < wl (x / Nat.gcd x y))), .slice An (wl (x / Nat.gcd x y)) cn, .slice Ad (wl (y / Nat.gcd x y)) cd], .int .i64 0]) (by simp [results, Tryz.results222, go_sem, c0, c1, c2]) rfl ⟨_, _, rfl, .inl ⟨HF.out, rfl, _, _, w2.heap.size, by rw [hqq.out, HQ.out], Nat.le_of_lt hlo, by simpa using hs3, by rw [HN.out]; exact ((((HO.out.1).setc hs1).setc hs1).setc hs1).mono (Nat.le_of_lt hs1) (Nat.le_refl _), by rw [HD.out]; exact ((((HO.out.2).setc hlo).setc hlo).setc hlo).mono (Nat.le_refl _) (by simp)⟩, ((HB.out.setCell (Nat.le_refl _) _).setCell (Nat.le_refl _) _).setCell (Nat.le_refl _) _⟩
end Go.Proofs.YtcbkijeonilcjaaGreat

/- The reference of layer 1: quotients. -/
namespace Go.Proofs.YtcbkijeonilcjaaGreat
open Go.RowKit

theorem rowK {w : World} {base k x : Nat} {v : Value} {l : List Value} (hk : k = x) (h : w.ownsRow base 116 1 v k l) : w.ownsRow base 116 1 v x l := by rw [← hk]; exact h
theorem row_mono {w : World} {base base' n : Nat} {v : Value} {l : List Value} (h : w.ownsRow base' 116 1 v n l) (hb : base ≤ base') : w.ownsRow base 116 1 v n l := by
  refine ⟨h.1, ?_⟩
  rcases h.2 with h | ⟨g, cap, cur, h1, h2, h3⟩
  · exact .inl h
  · exact .inr ⟨g, cap, cur, h1, by omega, h3⟩
set_option maxRecDepth 100000 in
set_option maxHeartbeats 1000000 in
theorem ref01_Trim_row (A : Option Addr) (n c : Nat) (l : List Nat) (w : World) (h : Rd w A n c l) :
    Calls Tryz.prog 289 #[.slice A n c] w fun e w' => ∃ v, e = .returned v ∧ w'.ownsRow w.heap.size 116 1 v (wl (val l)) (u32s (wds (val l))) ∧ Below w.heap.size w w' := by
  obtain ⟨i0, hi0, hz0, hz1, hz2⟩ := info_parts u32_info
  have hb := h.big.1
  have hnc := h.cap
  have HW : Hid (wl (val l) = tl l n ∧ Rd w A (wl (val l)) c (wds (val l))) := ⟨by rw [← tl_len h.lim, h.len], h.cut⟩
  go_enter Tryz.func289, Tryz.ntmps289
  go_wp2
  go_loop [3] (fun i => ∃ k : Nat, k ≤ n ∧ i = .int .i64 k ∧ tl l k = tl l n) (fun i => (intOf i).toNat)
  case atStart => exact ⟨n, Nat.le_refl _, rfl, rfl⟩
  case round =>
    obtain ⟨k, hk, rfl, ht⟩ := hrel
    have HT := Lib.hid ht
    clear ht
    by_cases hlt : 0 < k
    · obtain ⟨b, o, rfl, hc⟩ := h.cell (by omega)
      obtain ⟨k, rfl⟩ : ∃ m, k = m + 1 := ⟨k - 1, by omega⟩
      have hw := wd_lt h.lim k
      have hc1 := hc k (by omega)
      clear hc
      by_cases hz : wd l k = 0
      · have hz2 : ((wd l k : Nat) : Int) = 0 := by omega
        have HZ := Lib.hid hz
        clear hz
        go_wp2
        go_round
        case rel => exact ⟨k, by omega, by go_num, by rw [← HT.out, tl, if_pos HZ.out]⟩
        case measure => simp [intOf]
      · have hzz : (((wd l k : Nat) : Int) == 0) = false := by simp; omega
        have HK : Hid (k + 1 = wl (val l)) := by show k + 1 = wl (val l); rw [HW.out.1, ← HT.out, tl, if_neg hz]
        have hR := HW.out.2
        rw [← HK.out] at hR
        have HR := Lib.hid hR
        have HLM : Hid (lim (wds (val l)) ∧ True) := ⟨lim_wds _, trivial⟩
        clear hz hR
        go_wp2_with (at_builtin; refine wpList_append_rd _ rfl (.tmp 19) (.tmp 22) 22 rfl w.heap.size 116 i0 _ Tryz.underlying22 hi0 hz0 hz1 hz2 rfl (.slice none 0 0) 0 [] rfl (World.ownsRow_nil _ _ _ _) (some ⟨b, o, none⟩) (k + 1) c (wds (val l)) rfl HR.out (by omega) (Nat.le_refl _) ?_; intro v1 w1 hown hgr)
        go_ret
        exact ⟨_, rfl, rowK HK.out (by simpa using hown), (Below.refl _ _).grown hgr (Nat.le_refl _) (fun k hk => by simp [Value.ownBlock] at hk)⟩
    · obtain rfl : k = 0 := by omega
      have HK : Hid (0 = wl (val l)) := by show 0 = wl (val l); rw [HW.out.1, ← HT.out, tl]
      have hR := HW.out.2
      rw [← HK.out] at hR
      have HR := Lib.hid hR
      have HLM : Hid (lim (wds (val l)) ∧ True) := ⟨lim_wds _, trivial⟩
      clear hR
      go_wp2_with (at_builtin; refine wpList_append_rd _ rfl (.tmp 19) (.tmp 22) 22 rfl w.heap.size 116 i0 _ Tryz.underlying22 hi0 hz0 hz1 hz2 rfl (.slice none 0 0) 0 [] rfl (World.ownsRow_nil _ _ _ _) A 0 c (wds (val l)) rfl HR.out (by omega) (Nat.le_refl _) ?_; intro v1 w1 hown hgr)
      go_ret
      exact ⟨_, rfl, rowK HK.out (by simpa using hown), (Below.refl _ _).grown hgr (Nat.le_refl _) (fun k hk => by simp [Value.ownBlock] at hk)⟩

set_option maxRecDepth 100000 in
set_option maxHeartbeats 1000000 in
theorem ref01_Up_row (A : Option Addr) (c x n : Nat) (w : World) (h : Rd w A (wl x) c (wds x)) (hx : wl x ≤ 100000) (hn : n ≤ 1000000) :
    Calls Tryz.prog 221 #[.slice A (wl x) c, .int .i64 n] w fun e w' => ∃ v, e = .returned v ∧ w'.ownsRow w.heap.size 116 1 v (wl (x * 2 ^ n)) (u32s (wds (x * 2 ^ n))) ∧ Below w.heap.size w w' := by
  by_cases h0 : wl x = 0
  · have e1 : ((wl x : Int) == 0) = true := by rw [h0]; rfl
    have HZ : Hid (wds (x * 2 ^ n) = []) := by show wds (x * 2 ^ n) = []; rw [wl_eq_zero.1 h0, Nat.zero_mul, wds_zero]
    clear h0
    go_enter Tryz.func221, Tryz.ntmps221
    go_wp2_with fail
    go_ret
    exact ⟨_, rfl, by rw [HZ.out, show wl (x * 2 ^ n) = 0 from by rw [wl, HZ.out]; rfl]; exact World.ownsRow_nil _ _ _ _, Below.refl _ _⟩
  have e1 : ((wl x : Int) == 0) = false := by simp; omega
  obtain ⟨i0, hi0, hz0, hz1, hz2⟩ := info_parts u32_info
  obtain ⟨m, hm⟩ : ∃ m : Nat, m = n / 32 := ⟨_, rfl⟩
  obtain ⟨r, hr⟩ : ∃ r : Nat, r = n % 32 := ⟨_, rfl⟩
  have HMR : Hid (n = 32 * m + r ∧ r < 32) := by show _ ∧ _; omega
  have hmb : m ≤ 1000000 := by omega
  have hrb : r < 32 := by omega
  have ed : (n : Int) / 32 = (m : Int) := by omega
  have er : (n : Int) % 32 = (r : Int) := by omega
  have et : ((r : Nat) : Int).toNat = r := by omega
  have hmk := fun (w : World) => run_make_u32 (P := Tryz.prog) 22 116 i0 Tryz.underlying22 hi0 hz0 hz1 hz2 (m + wl x + 1) ((wl x : Int) + m + 1) (by omega) (by omega) w
  have ha0 : Ar 116 (w.alloc (.cells (zeros (m + wl x + 1)) 116)) w.heap.size 0 (m + wl x + 1) (m + wl x + 1) (List.replicate (m + wl x + 1) 0) := ar_zeros 116 w (m + wl x + 1) (by omega)
  have hb0 : Below w.heap.size w (w.alloc (.cells (zeros (m + wl x + 1)) 116)) := (Below.refl _ _).alloc (Nat.le_refl _) _
  clear hi0 hz0 hz1 hz2 hm hr
  generalize hg : w.heap.size = g at ha0
  generalize hw0 : w.alloc (.cells (zeros (m + wl x + 1)) 116) = w0 at ha0 hb0
  go_enter Tryz.func221, Tryz.ntmps221
  go_wp2
  have HW0 := Lib.hid hw0
  have HG := Lib.hid hg
  clear hw0 hg
  go_loopw [6] (fun iv wr => ∃ (k : Nat) (cs : List Nat), iv = .int .i64 k ∧ k ≤ wl x ∧ upAt2 x r m k cs ∧ Ar 116 wr g 0 (m + wl x + 1) (m + wl x + 1) cs ∧ Mod g 0 (m + wl x + 1) w0 wr) (fun iv _ => wl x - (intOf iv).toNat)
  case atStart => exact ⟨0, _, rfl, Nat.zero_le _, upAt2_zero _ _ _ _, ha0, Mod.refl _ _ _ _⟩
  case round =>
    obtain ⟨k, cs, rfl, hk, hS, hA, hM⟩ := hrel
    have R1 := h.mod hb0 hM (Nat.le_of_eq HG.out)
    have HM := Lib.hid hM
    clear hM
    by_cases hlt : k < wl x
    · obtain ⟨b, o, rfl, hc⟩ := R1.cell (by omega)
      have d1 := hc k hlt
      have l1 := wd_lt R1.lim k
      clear hc
      have f1 := hA.cell (m + k) (by omega)
      have f2 := hA.free (m + k)
      have f3 := hA.cell (m + k + 1) (by omega)
      have f4 := hA.free (m + k + 1)
      have l2 := wd_lt hA.lim (m + k)
      rw [Nat.zero_add] at f1 f3
      have ho := hS.2.1
      have hu := up_word hrb l1 ho
      have hst := upAt2_step hS hrb (by have := hA.len; omega)
      have hA2 := hA.set (m + k) (wd cs (m + k) + wd (wds x) k * 2 ^ r % 4294967296) (by omega) (by omega)
      have hA3 := hA2.set (m + k + 1) (wd (wds x) k * 2 ^ r / 4294967296) (by omega) (Nat.lt_trans hu.2.2 (pow_lt_32 hrb))
      rw [Nat.zero_add, Nat.zero_add] at hA3
      have e5 := wrap_up (wd (wds x) k) r hrb l1
      have hul := Nat.lt_trans hu.2.2 (pow_lt_32 hrb)
      have HH := Lib.hid (And.intro ho (And.intro hu (And.intro hst hA3)))
      rw [Nat.add_comm m k] at f1 f2 f3 f4
      clear hu hst hA2 hA3 ho hS
      go_wp2_with fail
      go_roundw
      case rel =>
        obtain ⟨ho, hu, hst, hA3⟩ := HH.out
        refine ⟨k + 1, _, by go_num, by omega, hst, ?_, (HM.out.setCell (k + m) _ (by omega)).setCell (k + m + 1) _ (by omega)⟩
        have ep : (wd (wds x) k : Int) * 2 ^ r = ((wd (wds x) k * 2 ^ r : Nat) : Int) := by rw [Int.natCast_mul, Int.natCast_pow]; rfl
        have hlo := hu.2.1
        rw [Nat.add_comm m k] at hA3 hlo
        have e6 : ((wd cs (k + m) : Int) + (wd (wds x) k : Int) * 2 ^ r) % 4294967296 = ((wd cs (k + m) + wd (wds x) k * 2 ^ r % 4294967296 : Nat) : Int) := by
          rw [ep]
          generalize wd (wds x) k * 2 ^ r = p at *
          omega
        have e7 : (wd (wds x) k : Int) * 2 ^ r / 4294967296 % 4294967296 = ((wd (wds x) k * 2 ^ r / 4294967296 : Nat) : Int) := by
          rw [ep]
          generalize wd (wds x) k * 2 ^ r = p at *
          omega
        rw [e6, e7, Nat.add_comm m k]
        exact hA3
      case measure => simp [intOf]; omega
    · obtain rfl : k = wl x := by omega
      have hv := upAt2_end hS (Nat.le_refl _) hA.len
      have HV := Lib.hid (show val cs = x * 2 ^ n by rw [hv, ← HMR.out.1])
      clear hv
      go_wp2_with fail
      refine (ref01_Trim_row _ _ _ _ _ hA.rd).mono ?_
      rintro e w1 ⟨v, rfl, hO, hB1⟩
      rw [HV.out] at hO
      go_wp2
      go_ret
      have hbx : Below g w wr := by
        have := (HM.out.below _ (Nat.le_refl _))
        rw [HG.out] at hb0
        exact hb0.trans this
      have hsz : g ≤ wr.heap.size := Nat.le_of_lt hA.lt
      exact ⟨_, rfl, row_mono hO hsz, hbx.trans (hB1.mono hsz)⟩

theorem row_snoc {w : World} {base n : Nat} {v : Value} {l : List Nat} (h : w.ownsRow base 116 1 v (n + 1) (u32s l ++ u32s [0])) (hl : lim l) (hn : n + 1 ≤ 35184372087808) :
    ∃ b o c, v = .slice (some ⟨b, o, none⟩) (n + 1) c ∧ base ≤ b ∧ Ar 116 w b o (n + 1) c (l ++ [0]) ∧ v.ownBlock = some b := by
  have hO : Own 116 w base v (l ++ [0]) := by
    refine Own.of_row (n := n + 1) ?_ (lim_append hl (fun x hx => by simp at hx; omega)) hn
    have e : u32s (l ++ [0]) = u32s l ++ u32s [0] := by simp [u32s]
    rw [e]; exact h
  rcases hO with ⟨_, h2⟩ | ⟨b, o, k, cc, rfl, h3, h4⟩
  · simp at h2
  · obtain rfl : k = n + 1 := by
      have h5 := h4.len
      have h6 := h.1
      simp [u32s] at h5 h6; omega
    exact ⟨b, o, cc, rfl, h3, h4, rfl⟩
theorem divAt_start2 {N V m : Nat} {u q : List Nat} (hu : val u = N) (hlu : u.length = wl N + 1) (hl : lim u) (hV : wl V = m) (hm : 0 < m) (hmx : m ≤ wl N) (hq : q.length = wl N + 1 - m) :
    divAt N V (wl N + 1 - m) u q := by
  refine ⟨by rw [List.drop_eq_nil_of_le (by omega)]; simp [val, hu], ?_⟩
  rw [val_drop_div hl _ (by omega), hu]
  have h1 : V ≠ 0 := fun e => by rw [e, wl_zero] at hV; omega
  have h2 := pow_wl_le h1
  rw [hV] at h2
  refine Nat.lt_of_lt_of_le (Nat.div_lt_of_lt_mul ?_) h2
  rw [← Nat.pow_add, show wl N + 1 - m + (m - 1) = wl N from by omega]
  exact lt_pow_wl N

theorem ref01_Over_lt (A A' : Option Addr) (c c' x y : Nat) (w : World) (h : Rd w A (wl x) c (wds x)) (h' : Rd w A' (wl y) c' (wds y)) (hxy : x < y) :
    Calls Tryz.prog 285 #[.slice A (wl x) c, .slice A' (wl y) c'] w fun e w' => ∃ q r, e = .returned (.tuple #[q, r]) ∧ Own 116 w' w.heap.size q (wds (x / y)) ∧ Own 116 w' w.heap.size r (wds (x % y)) ∧ Below w.heap.size w w' := by
  have hcm : cmpN x y < 0 := by rw [cmpN_lt hxy]; omega
  have hd := Lib.hid (Nat.div_eq_of_lt hxy)
  have hm := Lib.hid (Nat.mod_eq_of_lt hxy)
  clear hxy
  go_enter Tryz.func285, Tryz.ntmps285
  go_wp2_with fail
  refine (ref01_Compare A A' _ c _ c' _ _ _ h h').mono ?_
  rintro e w1 ⟨rfl, n2, rfl⟩
  rw [val_wds, val_wds]
  go_wp2_with fail
  refine (ref01_Trim A _ c _ _ (h.drewN _)).mono ?_
  rintro e w1 ⟨v, rfl, hO, hB⟩
  rw [val_wds] at hO
  go_wp2
  go_ret2
  exact ⟨_, _, rfl, .inl ⟨rfl, by rw [hd.out, wds_zero]⟩, by rw [hm.out]; exact hO, (below_drewN (Below.refl _ _) _).trans hB⟩

theorem rd_zero (T : TypeId) (w : World) : Rd (w.alloc (.cells #[.int .u32 0] T)) (some ⟨w.heap.size, 0, none⟩) 1 1 [0] :=
  (show Ar T (w.alloc (.cells #[.int .u32 0] T)) w.heap.size 0 1 1 [0] from ⟨_, heap_alloc_new w _, by simp, Nat.le_refl _, ⟨by omega, by unfold maxLen; omega⟩, rfl, fun x hx => by simp at hx; omega, fun j hj => by
    obtain rfl : j = 0 := by omega
    simp [wd]⟩).rd
set_option maxHeartbeats 400000 in
theorem ref01_Over_one (A A' : Option Addr) (c c' x y : Nat) (w : World) (h : Rd w A (wl x) c (wds x)) (h' : Rd w A' (wl y) c' (wds y)) (hx : wl x ≤ 70000) (hy : 0 < y) (hyx : y ≤ x) (h1 : wl y = 1) :
    Calls Tryz.prog 285 #[.slice A (wl x) c, .slice A' (wl y) c'] w fun e w' => ∃ q r, e = .returned (.tuple #[q, r]) ∧ Own 116 w' w.heap.size q (wds (x / y)) ∧ Own 116 w' w.heap.size r (wds (x % y)) ∧ Below w.heap.size w w' := by
  have hcm : 0 ≤ cmpN x y := by unfold cmpN; rw [if_neg (by omega)]; split <;> omega
  have hcm2 : (cmpN x y < 0) = False := by simp only [eq_iff_iff, iff_false]; omega
  have hyB : y < 4294967296 := by have := @wl_le y 1; omega
  obtain ⟨b', o', rfl, hc'⟩ := h'.cell (by omega)
  have d0 : w.cell? ⟨b', o', none⟩ = some (.int .u32 (wd (wds y) 0 : Nat)) := hc' 0 (by omega)
  have hw0 : wd (wds y) 0 = y := by rw [wd_wds]; omega
  rw [hw0] at d0
  have e1 : ((wl y : Int) == 1) = true := by rw [h1]; rfl
  have hyp : 0 < wl y := by omega
  have H1 := Lib.hid h1
  clear hc' hw0 h1
  go_enter Tryz.func285, Tryz.ntmps285
  go_wp2_with fail
  refine (ref01_Compare A _ _ c _ c' _ _ _ h h').mono ?_
  rintro e w1 ⟨rfl, n2, rfl⟩
  rw [val_wds, val_wds]
  go_wp2_with fail
  refine (ref01_small A c x y _ (h.drewN _) (by omega) hy hyB).mono ?_
  rintro e w2 ⟨v, rfl, hO, hB⟩
  have hry : x % y < y := Nat.mod_lt _ hy
  have hB0 := Lib.hid ((below_drewN (Below.refl w.heap.size w) n2).trans hB)
  have HO := Lib.hid hO
  clear hO hB
  go_wp2_with fail
  refine (ref01_Of (x % y) _ (by omega)).mono ?_
  rintro e w3 ⟨v3, rfl, hO3, hB3⟩
  go_wp2
  go_ret2
  exact ⟨_, _, rfl, HO.out.below hB3, hO3.mono hB0.out.size, hB0.out.trans (hB3.mono hB0.out.size)⟩

set_option maxRecDepth 100000 in
set_option maxHeartbeats 2000000 in
theorem ref01_Over_two (A A' : Option Addr) (c c' x y : Nat) (w : World) (h : Rd w A (wl x) c (wds x)) (h' : Rd w A' (wl y) c' (wds y)) (hx : wl x ≤ 70000) (hyx : y ≤ x) (h2 : 2 ≤ wl y) :
    Calls Tryz.prog 285 #[.slice A (wl x) c, .slice A' (wl y) c'] w fun e w' => ∃ q r, e = .returned (.tuple #[q, r]) ∧ Own 116 w' w.heap.size q (wds (x / y)) ∧ Own 116 w' w.heap.size r (wds (x % y)) ∧ Below w.heap.size w w' := by
  have hcm2 : (cmpN x y < 0) = False := by simp only [eq_iff_iff, iff_false]; unfold cmpN; rw [if_neg (by omega)]; split <;> omega
  have hwxy := wl_mono hyx
  have hy0 : y ≠ 0 := fun e => by rw [e, wl_zero] at h2; omega
  have e1 : ((wl y : Int) == 1) = false := by simp; omega
  obtain ⟨n, hn⟩ : ∃ n, n = 32 - blen (wd (wds y) (wl y - 1)) := ⟨_, rfl⟩
  obtain ⟨hn32, hwV, htV⟩ := norm_div hy0 hn
  have hbt := blen_top hy0
  have hbl := blen_le_of_lt (n := 32) (x := wd (wds y) (wl y - 1)) (by have := wd_lt (lim_wds y) (wl y - 1); omega)
  have en : (32 : Int) * (wl y : Int) - (blen y : Nat) = (n : Int) := by omega
  obtain ⟨V, hV⟩ : ∃ V, V = y * 2 ^ n := ⟨_, rfl⟩
  obtain ⟨N, hN⟩ : ∃ N, N = x * 2 ^ n := ⟨_, rfl⟩
  rw [← hV] at hwV htV
  have hVN : V ≤ N := by rw [hV, hN]; exact Nat.mul_le_mul_right _ hyx
  have hNw : wl N ≤ 70001 := by
    have := wl_mul x (2 ^ n)
    rw [← hN] at this
    have h3 : wl (2 ^ n) ≤ 1 := wl_le.2 (by have := pow_lt_32 hn32; omega)
    omega
  have hVw := wl_mono hVN
  have HDS := Lib.hid (div_shift x y n)
  have HVD := Lib.hid (And.intro hV hN)
  have HWV := Lib.hid (And.intro hwV htV)
  obtain ⟨i0, hi0, hz0, hz1, hz2⟩ := info_parts u32_info
  have hV2 : 2 ≤ wl V := by omega
  clear hn hbt hbl hwV htV hV hN hVN
  go_enter Tryz.func285, Tryz.ntmps285
  go_wp2_with fail
  refine (ref01_Compare A A' _ c _ c' _ _ _ h h').mono ?_
  rintro e w1 ⟨rfl, n2, rfl⟩
  rw [val_wds, val_wds]
  go_wp2_with fail
  refine (ref01_Bits A' _ c' _ _ (h'.drewN _)).mono ?_
  rintro e w2 ⟨rfl, hB2⟩
  rw [val_wds]
  have h2' := (h'.drewN n2).below hB2
  have hA2 := (h.drewN n2).below hB2
  have HB2 := Lib.hid ((below_drewN (Below.refl w.heap.size w) n2).trans hB2)
  clear hB2
  go_wp2_with fail
  refine (ref01_Up A' c' y n _ h2' (by omega) (by omega)).mono ?_
  rintro e w3 ⟨v3, rfl, hO3, hB3⟩
  rw [← HVD.out.1] at hO3
  obtain ⟨Ad, cd, rfl, hRd⟩ := hO3.wl0
  have HB3 := Lib.hid (HB2.out.trans (hB3.mono HB2.out.size))
  have hA3 := hA2.below hB3
  clear hB3 hO3 h2' hA2
  go_wp2_with fail
  refine (ref01_Up_row A c x n _ hA3 (by omega) (by omega)).mono ?_
  rintro e w4 ⟨v4, rfl, hO4, hB4⟩
  rw [← HVD.out.2] at hO4
  have HRd3 := Lib.hid hRd
  have hRd4 := hRd.below hB4
  have hOa := hO4.alloc (.cells #[.int .u32 0] 116)
  have hR0 := rd_zero 116 w4
  have HB4 := Lib.hid hB4
  have HOa := Lib.hid hOa
  have HR0 := Lib.hid hR0
  have HRd := Lib.hid hRd
  clear hO4 hOa hR0 hB4
  have hmk := fun (w : World) => run_make_u32 (P := Tryz.prog) 22 116 i0 Tryz.underlying22 hi0 hz0 hz1 hz2 (wl N + 1 - wl V) ((wl N : Int) + 1 - wl V) (by omega) (by omega) w
  go_wp2_with (at_builtin; refine wpList_append_rd _ rfl (.tmp 45) (.tmp 46) 22 rfl w3.heap.size 116 i0 _ Tryz.underlying22 hi0 hz0 hz1 hz2 rfl v4 (wl N) (u32s (wds N)) rfl HOa.out (some ⟨w4.heap.size, 0, none⟩) 1 1 [0] rfl HR0.out (by omega) (by have := HB4.out.size; simp; omega) ?_; intro v5 w5 hown hgr; obtain ⟨b2, o2, c5, rfl, hb2, hU, hob⟩ := row_snoc hown (lim_wds N) (by omega))
  have hB35 : Below w3.heap.size w3 w5 := (HB4.out.alloc HB4.out.size _).grown hgr (by have := HB4.out.size; simp; omega) (fun k hk => (HOa.out.lt k hk).1)
  have hvU : val (wds N ++ [0]) = N := by rw [val_append, val_wds]; simp [val]
  have ha0 : Ar 116 (w5.alloc (.cells (zeros (wl N + 1 - wl V)) 116)) w5.heap.size 0 (wl N + 1 - wl V) (wl N + 1 - wl V) (List.replicate (wl N + 1 - wl V) 0) := ar_zeros 116 w5 (wl N + 1 - wl V) (by omega)
  have hb0 : Below w3.heap.size w3 (w5.alloc (.cells (zeros (wl N + 1 - wl V)) 116)) := hB35.alloc hB35.size _
  have hU0 := hU.alloc (.cells (zeros (wl N + 1 - wl V)) 116)
  have hlt2 := hU.lt
  have hst0 : divAt N V (wl N + 1 - wl V) (wds N ++ [0]) (List.replicate (wl N + 1 - wl V) 0) := divAt_start2 hvU (by rw [List.length_append, wl_def]; rfl) hU.lim rfl (by omega) hVw (by simp)
  generalize hg : w5.heap.size = g at ha0 hlt2
  generalize hw0 : w5.alloc (.cells (zeros (wl N + 1 - wl V)) 116) = w0 at ha0 hb0 hU0
  have HB0 := Lib.hid hb0
  clear hi0 hz0 hz1 hz2 hown hgr hB35 hvU hU hRd4 hb0
  go_wp2_with fail
  have HW0 := Lib.hid hw0
  have HG := Lib.hid hg
  clear hw0 hg
  have ne2g : b2 ≠ g := by omega
  have hg3 : w3.heap.size ≤ g := by omega
  go_loopw [12] (fun iv wr => ∃ (k : Nat) (z : Int) (us qs : List Nat), iv = .int .i64 z ∧ z + 1 = k ∧ k ≤ wl N + 1 - wl V ∧ divAt N V k us qs ∧ Ar 116 wr b2 o2 (wl N + 1) c5 us ∧ Ar 116 wr g 0 (wl N + 1 - wl V) (wl N + 1 - wl V) qs ∧ Below w3.heap.size w3 wr) (fun iv _ => (intOf iv + 1).toNat)
  case atStart => exact ⟨wl N + 1 - wl V, _, _, _, rfl, by omega, Nat.le_refl _, hst0, hU0, ha0, HB0.out⟩
  case round =>
    clear hst0 hU0 ha0
    obtain ⟨k, z, us, qs, rfl, hz, hk, hS, hU, hQ, hB⟩ := hrel
    by_cases hlt : 0 < k
    · obtain ⟨k, rfl⟩ : ∃ m, k = m + 1 := ⟨k - 1, by omega⟩
      obtain rfl : z = k := by omega
      clear hz
      have hlen := hU.len
      obtain ⟨hD, hv1, hv0⟩ := divAt_in hS hU.lim hV2 rfl (by rw [HWV.out.1]; exact HWV.out.2) (by omega)
      have hsub := hU.sub k (k + wl V + 1) (by omega) (by omega)
      rw [show k + wl V + 1 - k = wl V + 1 from by omega] at hsub
      have HH := Lib.hid (And.intro hv1 (And.intro hv0 hlen))
      have hRdr := HRd3.out.below hB
      have hcap := hU.cap
      clear hv1 hv0 hlen
      go_wp2_with fail
      rw [show k + wl V + 1 - k = wl V + 1 from by omega]
      refine (ref01_digit b2 (o2 + k) (c5 - k) (wl V) V Ad cd _ _ hsub hRdr hD (by omega)).mono ?_
      rintro e w6 ⟨rfl, l', hl', hA6, w7, hB7, hM6⟩
      have hqlt := hD.quo_lt
      have hlen' := hA6.len
      have hU6 := (hU.below hB7).put k (wl V + 1) (c5 - k) (by omega) hA6 hM6
      have hQ6 : Ar 116 w6 g 0 (wl N + 1 - wl V) (wl N + 1 - wl V) qs := hM6.ar (hQ.below hB7) (Ne.symm ne2g)
      have hst := divAt_step (p := l') hS (by have := HH.out.2.2; omega) (by have := hQ.len; omega) hlen' rfl hl' hD.pos HH.out.1 HH.out.2.1
      have HVp := Lib.hid hD.pos
      generalize val ((us.drop k).take (wl V + 1)) / V = qd at *
      have hQ7 := hQ6.set k qd (by omega) hqlt
      have f1 := hQ6.cell k (by omega)
      have f2 := hQ6.free k
      rw [Nat.zero_add] at hQ7 f1
      have HF := Lib.hid (And.intro hst (And.intro hU6 (And.intro hQ7 ((hB.trans (hB7.mono hB.size)).trans (hM6.below _ hb2)))))
      clear hst hU6 hQ7 hM6 hA6 hB7 hl' hS hlen' hD hsub hRdr hQ6 hQ hU
      go_wp2_with fail
      go_roundw
      case rel => exact ⟨k, _, _, _, rfl, by omega, by omega, HF.out.1, by have := HF.out.2.1.other ⟨g, k, none⟩ (.int .u32 (qd : Nat)) ne2g; rw [show k + (wl V + 1) = k + wl V + 1 from by omega] at this; exact this, HF.out.2.2.1, HF.out.2.2.2.setCell hg3 _⟩
      case measure => simp [intOf]
    · obtain rfl : k = 0 := by omega
      have hz2 : z < 0 := by omega
      clear hz
      obtain ⟨hq, hr⟩ := divAt_end hS
      have HE := Lib.hid (And.intro hq hr)
      have hl := hU.len
      clear hq hr hS
      go_wp2_with fail
      refine (ref01_Trim _ _ _ _ _ hQ.rd).mono ?_
      rintro e w6 ⟨v6, rfl, hO6, hB6⟩
      rw [HE.out.1] at hO6
      go_wp2_with fail
      refine (ref01_Trim _ _ _ _ _ (hU.below hB6).rd).mono ?_
      rintro e w7 ⟨v7, rfl, hO7, hB7⟩
      rw [HE.out.2] at hO7
      obtain ⟨A7, c7, rfl, hR7⟩ := hO7.wl0
      have hm1 : wl (N % V) ≤ 70001 := Nat.le_trans (wl_mono (Nat.mod_le _ _)) hNw
      go_wp2_with fail
      refine (ref01_Down A7 _ c7 _ n _ hR7 (by omega) (by omega)).mono ?_
      rintro e w8 ⟨v8, rfl, hO8, hB8⟩
      rw [val_wds] at hO8
      go_wp2
      go_ret2
      have s3 := HB3.out.size
      have sr := hB.size
      have s6 := hB6.size
      have s7 := hB7.size
      have e1 : N / V = x / y := by rw [HVD.out.1, HVD.out.2]; exact HDS.out.1
      have e2 : N % V / 2 ^ n = x % y := by rw [HVD.out.1, HVD.out.2]; exact HDS.out.2
      rw [e1] at hO6
      rw [e2] at hO8
      have hbr : Below w.heap.size w wr := HB3.out.trans (hB.mono s3)
      have hb6 := hbr.trans (hB6.mono hbr.size)
      have hb7 := hb6.trans (hB7.mono hb6.size)
      exact ⟨_, _, rfl, ((hO6.below hB7).below hB8).mono hbr.size, hO8.mono hb7.size, hb7.trans (hB8.mono hb7.size)⟩

theorem ref01_Over (A A' : Option Addr) (c c' x y : Nat) (w : World) (h : Rd w A (wl x) c (wds x)) (h' : Rd w A' (wl y) c' (wds y)) (hx : wl x ≤ 70000) (hy : 0 < y) :
    Calls Tryz.prog 285 #[.slice A (wl x) c, .slice A' (wl y) c'] w fun e w' => ∃ q r, e = .returned (.tuple #[q, r]) ∧ Own 116 w' w.heap.size q (wds (x / y)) ∧ Own 116 w' w.heap.size r (wds (x % y)) ∧ Below w.heap.size w w' := by
  rcases Nat.lt_or_ge x y with hl | hl
  · exact ref01_Over_lt A A' c c' x y w h h' hl
  · have hp := wl_pos_iff.2 hy
    rcases (by omega : wl y = 1 ∨ 2 ≤ wl y) with h1 | h1
    · exact ref01_Over_one A A' c c' x y w h h' hx hy hl h1
    · exact ref01_Over_two A A' c c' x y w h h' hx hl h1
end Go.Proofs.YtcbkijeonilcjaaGreat
