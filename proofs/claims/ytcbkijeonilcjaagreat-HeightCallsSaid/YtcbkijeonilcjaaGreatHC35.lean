/- Errors of a port's heights: Near, asked, tick, and their references. -/
import Derived.Test.YtcbkijeonilcjaaGreatHC33
import Derived.Test.YtcbkijeonilcjaaGreatHC34
namespace Go.Proofs.YtcbkijeonilcjaaGreat
open Go.RowKit

/-- raw lists that say a number that is near -/
def nrL (l l' : List Nat) : Bool := decide (val l = 0) || (decide (val l' ≤ val l * hiN) && decide (val l ≤ val l' * hiN))
def Pd.near (p : Pd) : Bool := nrL p.l p.l' && p.ts.all (fun T => nrL T.l1 T.l1' && nrL T.l2 T.l2')
theorem RdN.near {g : Bool} {l l' : List Nat} {r : Rat} (h : RdN g l l' r) : nrL l l' = nrB r := by
  obtain ⟨_, _, rfl, rfl⟩ := h
  unfold nrL nrB nrK
  rw [val_wds, val_wds, hiN_pow]
theorem all_congr {α β : Type} (f : α → Bool) (g : β → Bool) (l : List α) (m : List β) (hl : m.length = l.length) (h : ∀ j (h : j < l.length) (h' : j < m.length), f l[j] = g m[j]) : l.all f = m.all g := by
  induction l generalizing m with
  | nil =>
    cases m with
    | nil => rfl
    | cons => simp at hl
  | cons x l ih =>
    cases m with
    | nil => simp at hl
    | cons y m =>
      have h0 : f x = g y := h 0 (by simp) (by simp)
      rw [List.all_cons, List.all_cons, h0, ih m (by simpa using hl) (fun j a b => h (j + 1) (by simpa using a) (by simpa using b))]
theorem PdN.near {p : Pd} {P : Pn} (h : PdN p P) : p.near = P.near := by
  obtain ⟨h1, h2, h3, h4⟩ := h
  unfold Pd.near Pn.near
  rw [h1.near, all_congr (fun T => nrL T.l1 T.l1' && nrL T.l2 T.l2') (fun T => nrB T.re && nrB T.im) p.ts P.ts h3 (fun j a b => by
    obtain ⟨_, b1, c1⟩ := h4 j a b
    show (nrL _ _ && nrL _ _) = _
    rw [b1.near, c1.near])]
theorem tidesG_nil {ts : List Td} (k i : Nat) (h : (tidesG ts i k).1 = 0) : tidesG ts i k = (0, 0) := by
  induction k generalizing i with
  | zero => rfl
  | succ k ih =>
    unfold tidesG at h ⊢
    cases hg : ts[i]? with
    | none => rfl
    | some T =>
      rw [hg] at h
      simp only at h ⊢
      by_cases he : T.err = 0
      · rw [if_pos he] at h ⊢
        by_cases c : thereB (ts.take i) T.nm T.far T.near = true
        · rw [if_pos c] at h; cases h
        · rw [if_neg c] at h ⊢
          exact ih (i + 1) h
      · rw [if_neg he] at h
        exact absurd h he
theorem Pd.fault_nil {p : Pd} (h : p.fault.1 = 0) : p.fault = (0, 0) := by
  unfold Pd.fault at h ⊢
  split at h
  · split at h
    · split at h
      · rename_i h1 h2 h3
        rw [if_pos h1, if_pos h2, if_pos h3]
        exact tidesG_nil _ _ h
      · cases h
    · rename_i h1 h2
      exact absurd h h2
  · cases h
def nearE (f : Int) (nr : Bool) : Int := if f ≠ 0 then f else if nr then 0 else 9
def askE (f : Int) (nr : Bool) (a b : Int) : Int := if f ≠ 0 then f else if a < 0 ∨ 1025 < b ∨ b < a then 2 else if nr then 0 else 9
def tickE (f : Int) (nr : Bool) (t : Int) : Int := if t < 0 ∨ 1024 < t then askE f nr 1 0 else askE f nr t (t + 1)
def Pd.nearE (p : Pd) : Int := Go.Proofs.YtcbkijeonilcjaaGreat.nearE p.fault.1 p.near
def Pd.askE (p : Pd) (a b : Int) : Int := Go.Proofs.YtcbkijeonilcjaaGreat.askE p.fault.1 p.near a b
def Pd.tickE (p : Pd) (t : Int) : Int := Go.Proofs.YtcbkijeonilcjaaGreat.tickE p.fault.1 p.near t
/-- the checks of a port, told at whatever later world -/
structure Chk (w : World) (v : Value) (f1 f2 : Int) (nr : Bool) : Prop where
  agg : ∃ x0 x1 x2 x3 x4, v = .agg #[x0, x1, x2, x3, x4]
  pc : ∀ w', Below w.heap.size w w' → Calls Tryz.prog 59 #[v] w' fun e w'' => e = .returned (.agg #[.int .i64 f1, .int .i64 f2]) ∧ Below w'.heap.size w' w''
  rc : ∀ w', Below w.heap.size w w' → Calls Tryz.prog 61 #[v] w' fun e w'' => e = .returned (.agg #[.int .i64 f1, .int .i64 f2]) ∧ Below w'.heap.size w' w''
  z : f1 = 0 → f2 = 0
  pn : f1 = 0 → ∀ w', Below w.heap.size w w' → Calls Tryz.prog 60 #[v] w' fun e w'' => e = .returned (.bool nr) ∧ Below w'.heap.size w' w''
  rn : f1 = 0 → ∀ w', Below w.heap.size w w' → Calls Tryz.prog 62 #[v] w' fun e w'' => e = .returned (.bool nr) ∧ Below w'.heap.size w' w''
theorem PdR.chk {w : World} {v : Value} {p : Pd} (h : PdR w v p) : Chk w v p.fault.1 p.fault.2 p.near := by
  refine ⟨?_, fun w' hb => port_Check w' (h.below hb), fun w' hb => ref14_Check w' (h.below hb), fun h0 => by rw [Pd.fault_nil h0], fun h0 w' hb => ?_, fun h0 w' hb => ?_⟩
  · obtain ⟨_, A, n, c, A', n', c', B, k, d, e, _⟩ := h
    exact ⟨_, _, _, _, _, e⟩
  · obtain ⟨P, hP⟩ := PdN.of h.lim h0
    rw [hP.near]
    exact height_near w' ((h.num hP).below hb) hP.fit
  · obtain ⟨P, hP⟩ := PdN.of h.lim h0
    rw [hP.near]
    exact ref16_wide w' ((h.num hP).below hb) hP.fit
theorem Chk.below {w w1 : World} {v : Value} {f1 f2 : Int} {nr : Bool} (h : Chk w v f1 f2 nr) (hb : Below w.heap.size w w1) : Chk w1 v f1 f2 nr :=
  ⟨h.agg, fun w' k => h.pc w' (bel_step hb k), fun w' k => h.rc w' (bel_step hb k), h.z, fun h0 w' k => h.pn h0 w' (bel_step hb k), fun h0 w' k => h.rn h0 w' (bel_step hb k)⟩
theorem fault_field (f1 f2 : Int) (w : World) : (Instr.field 101 (.agg #[.int .i64 f1, .int .i64 f2]) 0).run Tryz.prog w = .ok (.int .i64 f1) w := by kernel_rfl
set_option maxRecDepth 100000 in
set_option maxHeartbeats 1000000 in
theorem height_Near {v : Value} {f1 f2 : Int} {nr : Bool} (w : World) (h : Chk w v f1 f2 nr ∧ True) :
    Calls Tryz.prog 17 #[v] w fun e w' => e = .returned (.int .i64 (nearE f1 nr)) ∧ Below w.heap.size w w' := by
  have HR := Lib.hid h.2
  obtain ⟨⟨x0, x1, x2, x3, x4, rfl⟩, pc, rc, hz, pn, rn⟩ := h.1
  clear h
  obtain ⟨W0, hW0⟩ : ∃ x, w.alloc (.cells #[x0, x1, x2, x3, x4] 27) = x := ⟨_, rfl⟩
  have hb0 : Below w.heap.size w W0 := by rw [← hW0]; exact (Below.refl _ _).alloc (Nat.le_refl _) _
  have hk : W0.heap[w.heap.size]? = some (.cells #[x0, x1, x2, x3, x4] 27) := by rw [← hW0]; exact heap_alloc_new w _
  have HA := Lib.hid (And.intro hb0 hk)
  obtain ⟨z0, z1, z2, z3, z4⟩ := cell5 hk
  have HC := Lib.hid pc
  have HZ := Lib.hid hz
  have HN := Lib.hid pn
  clear hb0 hk pc rc hz pn rn
  go_enter Tryz.func17, Tryz.ntmps17
  go_wp2_with fail
  have HW0 := Lib.hid hW0
  clear hW0
  refine (HC.out W0 HA.out.1).mono ?_
  rintro e w1 ⟨rfl, hB1⟩
  have hl1 : w.heap.size < w1.heap.size := heap_lt (blk_below hB1 HA.out.2)
  obtain ⟨W2, hW2⟩ : ∃ x, w1.alloc (.cells #[.int .i64 f1, .int .i64 f2] 101) = x := ⟨_, rfl⟩
  have hb2 : Below w1.heap.size w1 W2 := by rw [← hW2]; exact (Below.refl _ _).alloc (Nat.le_refl _) _
  have hf2 : W2.heap[w1.heap.size]? = some (.cells #[.int .i64 f1, .int .i64 f2] 101) := by rw [← hW2]; exact heap_alloc_new w1 _
  obtain ⟨y0, y1, y2, y3⟩ := cell2 hf2
  clear z0 z1 z2 z3 z4
  have HB := Lib.hid (And.intro (bel_step (bel_step HA.out.1 hB1) hb2) (blk_below hb2 (blk_below hB1 HA.out.2)))
  clear hB1 hb2 hf2
  go_upto_region 2 with fail
  have HW2 := Lib.hid hW2
  clear hW2
  obtain ⟨z0, z1, z2, z3, z4⟩ := cell5 HB.out.2
  by_cases hf : f1 = 0
  · have HF := Lib.hid hf
    have h2 := HZ.out hf
    subst hf h2
    go_wp2_with fail
    refine (HN.out (by simp) W2 HB.out.1).mono ?_
    rintro e w3 ⟨rfl, hB3⟩
    have HB3 := Lib.hid (bel_step HB.out.1 hB3)
    clear hB3 y0 y1 y2 y3 z0 z1 z2 z3 z4
    cases nr
    all_goals
      go_wp2_with fail
      go_ret
      exact ⟨rfl, HB3.out⟩
  · have HE : Hid (nearE f1 nr = f1) := by show _ = _; unfold nearE; rw [if_pos hf]
    have e1 : (f1 == 0) = false := by simp [hf]
    clear hf
    go_wp2_with fail
    go_ret
    exact ⟨ret_int HE.out.symm, HB.out.1⟩
set_option maxRecDepth 100000 in
set_option maxHeartbeats 1000000 in
theorem ref16_Near {v : Value} {f1 f2 : Int} {nr : Bool} (w : World) (h : Chk w v f1 f2 nr ∧ True) :
    Calls Tryz.prog 18 #[v] w fun e w' => e = .returned (.int .i64 (nearE f1 nr)) ∧ Below w.heap.size w w' := by
  have hfd := fault_field f1 f2
  have HR := Lib.hid h.2
  obtain ⟨⟨x0, x1, x2, x3, x4, rfl⟩, pc, rc, hz, pn, rn⟩ := h.1
  clear h
  obtain ⟨W0, hW0⟩ : ∃ x, w.alloc (.cells #[x0, x1, x2, x3, x4] 27) = x := ⟨_, rfl⟩
  have hb0 : Below w.heap.size w W0 := by rw [← hW0]; exact (Below.refl _ _).alloc (Nat.le_refl _) _
  have hk : W0.heap[w.heap.size]? = some (.cells #[x0, x1, x2, x3, x4] 27) := by rw [← hW0]; exact heap_alloc_new w _
  have HA := Lib.hid (And.intro hb0 hk)
  obtain ⟨z0, z1, z2, z3, z4⟩ := cell5 hk
  have HC := Lib.hid rc
  have HZ := Lib.hid hz
  have HN := Lib.hid rn
  clear hb0 hk pc rc hz pn rn
  go_enter Tryz.func18, Tryz.ntmps18
  go_wp2_with fail
  have HW0 := Lib.hid hW0
  clear hW0
  refine (HC.out W0 HA.out.1).mono ?_
  rintro e w1 ⟨rfl, hB1⟩
  have HB := Lib.hid (And.intro (bel_step HA.out.1 hB1) (blk_below hB1 HA.out.2))
  clear hB1 z0 z1 z2 z3 z4
  obtain ⟨z0, z1, z2, z3, z4⟩ := cell5 HB.out.2
  by_cases hf : f1 = 0
  · subst hf
    go_wp2_with fail
    refine (HN.out (by simp) w1 HB.out.1).mono ?_
    rintro e w3 ⟨rfl, hB3⟩
    have HB3 := Lib.hid (bel_step HB.out.1 hB3)
    clear hB3 z0 z1 z2 z3 z4
    cases nr
    all_goals
      go_wp2_with fail
      go_ret
      exact ⟨rfl, HB3.out⟩
  · have HE : Hid (nearE f1 nr = f1) := by show _ = _; unfold nearE; rw [if_pos hf]
    have e1 : (f1 == 0) = false := by simp [hf]
    clear hf
    go_wp2_with fail
    go_ret
    exact ⟨ret_int HE.out.symm, HB.out.1⟩
set_option maxRecDepth 100000 in
set_option maxHeartbeats 1000000 in
theorem height_asked {v : Value} {f1 f2 : Int} {nr : Bool} (a b : Int) (w : World) (h : Chk w v f1 f2 nr ∧ True) :
    Calls Tryz.prog 110 #[v, .int .i64 a, .int .i64 b] w fun e w' => e = .returned (.int .i64 (askE f1 nr a b)) ∧ Below w.heap.size w w' := by
  have HR := Lib.hid h.2
  obtain ⟨⟨x0, x1, x2, x3, x4, rfl⟩, pc, rc, hz, pn, rn⟩ := h.1
  clear h
  obtain ⟨W0, hW0⟩ : ∃ x, w.alloc (.cells #[x0, x1, x2, x3, x4] 27) = x := ⟨_, rfl⟩
  have hb0 : Below w.heap.size w W0 := by rw [← hW0]; exact (Below.refl _ _).alloc (Nat.le_refl _) _
  have hk : W0.heap[w.heap.size]? = some (.cells #[x0, x1, x2, x3, x4] 27) := by rw [← hW0]; exact heap_alloc_new w _
  have HA := Lib.hid (And.intro hb0 hk)
  obtain ⟨z0, z1, z2, z3, z4⟩ := cell5 hk
  have HC := Lib.hid pc
  have HZ := Lib.hid hz
  have HN := Lib.hid pn
  clear hb0 hk pc rc hz pn rn
  go_enter Tryz.func110, Tryz.ntmps110
  go_wp2_with fail
  have HW0 := Lib.hid hW0
  clear hW0
  refine (HC.out W0 HA.out.1).mono ?_
  rintro e w1 ⟨rfl, hB1⟩
  have hl1 : w.heap.size < w1.heap.size := heap_lt (blk_below hB1 HA.out.2)
  obtain ⟨W2, hW2⟩ : ∃ x, w1.alloc (.cells #[.int .i64 f1, .int .i64 f2] 101) = x := ⟨_, rfl⟩
  have hb2 : Below w1.heap.size w1 W2 := by rw [← hW2]; exact (Below.refl _ _).alloc (Nat.le_refl _) _
  have hf2 : W2.heap[w1.heap.size]? = some (.cells #[.int .i64 f1, .int .i64 f2] 101) := by rw [← hW2]; exact heap_alloc_new w1 _
  obtain ⟨y0, y1, y2, y3⟩ := cell2 hf2
  clear z0 z1 z2 z3 z4
  have HB := Lib.hid (And.intro (bel_step (bel_step HA.out.1 hB1) hb2) (blk_below hb2 (blk_below hB1 HA.out.2)))
  clear hB1 hb2 hf2
  go_upto_region 2 with fail
  have HW2 := Lib.hid hW2
  clear hW2
  obtain ⟨z0, z1, z2, z3, z4⟩ := cell5 HB.out.2
  by_cases hf : f1 = 0
  · have h2 := HZ.out hf
    subst hf h2
    by_cases hab : a < 0 ∨ 1025 < b ∨ b < a
    · have HE : Hid (askE 0 nr a b = 2) := by show _ = _; unfold askE; rw [if_neg (by simp), if_pos hab]
      have hx : a < 0 ∨ (0 ≤ a ∧ 1025 < b) ∨ (0 ≤ a ∧ b ≤ 1025 ∧ b < a) := by omega
      clear hab
      rcases hx with hx | ⟨hx, hy⟩ | ⟨hx, hy, hv⟩
      all_goals
        go_wp2_with fail
        go_ret
        exact ⟨ret_int HE.out.symm, HB.out.1⟩
    · have HE : Hid (askE 0 nr a b = if nr then 0 else 9) := by show _ = _; unfold askE; rw [if_neg (by simp), if_neg hab]
      have hx : 0 ≤ a := by omega
      have hy : b ≤ 1025 := by omega
      have hv : a ≤ b := by omega
      clear hab
      go_wp2_with fail
      refine (HN.out (by simp) _ HB.out.1).mono ?_
      rintro e w3 ⟨rfl, hB3⟩
      have HB3 := Lib.hid (bel_step HB.out.1 hB3)
      clear hB3 z0 z1 z2 z3 z4
      cases nr
      all_goals
        go_wp2_with fail
        go_ret
        exact ⟨ret_int HE.out.symm, HB3.out⟩
  · have HE : Hid (askE f1 nr a b = f1) := by show _ = _; unfold askE; rw [if_pos hf]
    have e1 : (f1 == 0) = false := by simp [hf]
    clear hf
    go_wp2_with fail
    go_ret
    exact ⟨ret_int HE.out.symm, HB.out.1⟩
set_option maxRecDepth 100000 in
set_option maxHeartbeats 1000000 in
theorem ref16_wrong {v : Value} {f1 f2 : Int} {nr : Bool} (a b : Int) (w : World) (h : Chk w v f1 f2 nr ∧ True) :
    Calls Tryz.prog 115 #[v, .int .i64 a, .int .i64 b] w fun e w' => e = .returned (.int .i64 (askE f1 nr a b)) ∧ Below w.heap.size w w' := by
  have hfd := fault_field f1 f2
  have HR := Lib.hid h.2
  obtain ⟨⟨x0, x1, x2, x3, x4, rfl⟩, pc, rc, hz, pn, rn⟩ := h.1
  clear h
  obtain ⟨W0, hW0⟩ : ∃ x, w.alloc (.cells #[x0, x1, x2, x3, x4] 27) = x := ⟨_, rfl⟩
  have hb0 : Below w.heap.size w W0 := by rw [← hW0]; exact (Below.refl _ _).alloc (Nat.le_refl _) _
  have hk : W0.heap[w.heap.size]? = some (.cells #[x0, x1, x2, x3, x4] 27) := by rw [← hW0]; exact heap_alloc_new w _
  have HA := Lib.hid (And.intro hb0 hk)
  obtain ⟨z0, z1, z2, z3, z4⟩ := cell5 hk
  have HC := Lib.hid rc
  have HZ := Lib.hid hz
  have HN := Lib.hid rn
  clear hb0 hk pc rc hz pn rn
  go_enter Tryz.func115, Tryz.ntmps115
  go_wp2_with fail
  have HW0 := Lib.hid hW0
  clear hW0
  refine (HC.out W0 HA.out.1).mono ?_
  rintro e w1 ⟨rfl, hB1⟩
  have HB := Lib.hid (And.intro (bel_step HA.out.1 hB1) (blk_below hB1 HA.out.2))
  clear hB1 z0 z1 z2 z3 z4
  obtain ⟨z0, z1, z2, z3, z4⟩ := cell5 HB.out.2
  by_cases hf : f1 = 0
  · subst hf
    by_cases hab : a < 0 ∨ 1025 < b ∨ b < a
    · have HE : Hid (askE 0 nr a b = 2) := by show _ = _; unfold askE; rw [if_neg (by simp), if_pos hab]
      have hx : a < 0 ∨ (0 ≤ a ∧ 1025 < b) ∨ (0 ≤ a ∧ b ≤ 1025 ∧ b < a) := by omega
      clear hab
      rcases hx with hx | ⟨hx, hy⟩ | ⟨hx, hy, hv⟩
      all_goals
        go_wp2_with fail
        go_ret
        exact ⟨ret_int HE.out.symm, HB.out.1⟩
    · have HE : Hid (askE 0 nr a b = if nr then 0 else 9) := by show _ = _; unfold askE; rw [if_neg (by simp), if_neg hab]
      have hx : 0 ≤ a := by omega
      have hy : b ≤ 1025 := by omega
      have hv : a ≤ b := by omega
      clear hab
      go_wp2_with fail
      refine (HN.out (by simp) _ HB.out.1).mono ?_
      rintro e w3 ⟨rfl, hB3⟩
      have HB3 := Lib.hid (bel_step HB.out.1 hB3)
      clear hB3 z0 z1 z2 z3 z4
      cases nr
      all_goals
        go_wp2_with fail
        go_ret
        exact ⟨ret_int HE.out.symm, HB3.out⟩
  · have HE : Hid (askE f1 nr a b = f1) := by show _ = _; unfold askE; rw [if_pos hf]
    have e1 : (f1 == 0) = false := by simp [hf]
    have e2 : (f1 != 0) = true := by simp [hf]
    clear hf
    go_wp2_with fail
    go_ret
    exact ⟨ret_int HE.out.symm, HB.out.1⟩
set_option maxRecDepth 100000 in
set_option maxHeartbeats 1000000 in
theorem height_tick {v : Value} {f1 f2 : Int} {nr : Bool} (t : Int) (w : World) (h : Chk w v f1 f2 nr ∧ True) :
    Calls Tryz.prog 49 #[v, .int .i64 t] w fun e w' => e = .returned (.int .i64 (tickE f1 nr t)) ∧ Below w.heap.size w w' := by
  have HC := Lib.hid h.1
  obtain ⟨x0, x1, x2, x3, x4, rfl⟩ := h.1.agg
  clear h
  obtain ⟨W0, hW0⟩ : ∃ x, w.alloc (.cells #[x0, x1, x2, x3, x4] 27) = x := ⟨_, rfl⟩
  have hb0 : Below w.heap.size w W0 := by rw [← hW0]; exact (Below.refl _ _).alloc (Nat.le_refl _) _
  have hk : W0.heap[w.heap.size]? = some (.cells #[x0, x1, x2, x3, x4] 27) := by rw [← hW0]; exact heap_alloc_new w _
  have HA := Lib.hid (And.intro hb0 hk)
  obtain ⟨z0, z1, z2, z3, z4⟩ := cell5 hk
  clear hb0 hk
  by_cases ht : t < 0 ∨ 1024 < t
  · have HE : Hid (tickE f1 nr t = askE f1 nr 1 0) := by show _ = _; unfold tickE; rw [if_pos ht]
    have hx : t < 0 ∨ (0 ≤ t ∧ 1024 < t) := by omega
    clear ht
    rcases hx with hx | ⟨hx, hy⟩
    all_goals
      go_enter Tryz.func49, Tryz.ntmps49
      go_wp2_with fail
      have HW0 := Lib.hid hW0
      clear hW0
      refine (height_asked 1 0 W0 ⟨HC.out.below HA.out.1, trivial⟩).mono ?_
      rintro e w1 ⟨rfl, hB1⟩
      have HB := Lib.hid (bel_step HA.out.1 hB1)
      clear hB1 z0 z1 z2 z3 z4
      go_wp2_with fail
      go_ret
      exact ⟨ret_int HE.out.symm, HB.out⟩
  · have HE : Hid (tickE f1 nr t = askE f1 nr t (t + 1)) := by show _ = _; unfold tickE; rw [if_neg ht]
    have hx : 0 ≤ t := by omega
    have hy : t ≤ 1024 := by omega
    clear ht
    go_enter Tryz.func49, Tryz.ntmps49
    go_wp2_with fail
    have HW0 := Lib.hid hW0
    clear hW0
    refine (height_asked t (t + 1) W0 ⟨HC.out.below HA.out.1, trivial⟩).mono ?_
    rintro e w1 ⟨rfl, hB1⟩
    have HB := Lib.hid (bel_step HA.out.1 hB1)
    clear hB1 z0 z1 z2 z3 z4
    go_wp2_with fail
    go_ret
    exact ⟨ret_int HE.out.symm, HB.out⟩
set_option maxRecDepth 100000 in
set_option maxHeartbeats 1000000 in
theorem ref16_tick {v : Value} {f1 f2 : Int} {nr : Bool} (t : Int) (w : World) (h : Chk w v f1 f2 nr ∧ True) :
    Calls Tryz.prog 52 #[v, .int .i64 t] w fun e w' => e = .returned (.int .i64 (tickE f1 nr t)) ∧ Below w.heap.size w w' := by
  have HC := Lib.hid h.1
  obtain ⟨x0, x1, x2, x3, x4, rfl⟩ := h.1.agg
  clear h
  obtain ⟨W0, hW0⟩ : ∃ x, w.alloc (.cells #[x0, x1, x2, x3, x4] 27) = x := ⟨_, rfl⟩
  have hb0 : Below w.heap.size w W0 := by rw [← hW0]; exact (Below.refl _ _).alloc (Nat.le_refl _) _
  have hk : W0.heap[w.heap.size]? = some (.cells #[x0, x1, x2, x3, x4] 27) := by rw [← hW0]; exact heap_alloc_new w _
  have HA := Lib.hid (And.intro hb0 hk)
  obtain ⟨z0, z1, z2, z3, z4⟩ := cell5 hk
  clear hb0 hk
  by_cases ht : t < 0 ∨ 1024 < t
  · have HE : Hid (tickE f1 nr t = askE f1 nr 1 0) := by show _ = _; unfold tickE; rw [if_pos ht]
    have hx : t < 0 ∨ (0 ≤ t ∧ 1024 < t) := by omega
    clear ht
    rcases hx with hx | ⟨hx, hy⟩
    all_goals
      go_enter Tryz.func52, Tryz.ntmps52
      go_wp2_with fail
      have HW0 := Lib.hid hW0
      clear hW0
      refine (ref16_wrong 1 0 W0 ⟨HC.out.below HA.out.1, trivial⟩).mono ?_
      rintro e w1 ⟨rfl, hB1⟩
      have HB := Lib.hid (bel_step HA.out.1 hB1)
      clear hB1 z0 z1 z2 z3 z4
      go_wp2_with fail
      go_ret
      exact ⟨ret_int HE.out.symm, HB.out⟩
  · have HE : Hid (tickE f1 nr t = askE f1 nr t (t + 1)) := by show _ = _; unfold tickE; rw [if_neg ht]
    have hx : 0 ≤ t := by omega
    have hy : t ≤ 1024 := by omega
    clear ht
    go_enter Tryz.func52, Tryz.ntmps52
    go_wp2_with fail
    have HW0 := Lib.hid hW0
    clear hW0
    refine (ref16_wrong t (t + 1) W0 ⟨HC.out.below HA.out.1, trivial⟩).mono ?_
    rintro e w1 ⟨rfl, hB1⟩
    have HB := Lib.hid (bel_step HA.out.1 hB1)
    clear hB1 z0 z1 z2 z3 z4
    go_wp2_with fail
    go_ret
    exact ⟨ret_int HE.out.symm, HB.out⟩
end Go.Proofs.YtcbkijeonilcjaaGreat
