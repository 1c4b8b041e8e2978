/- Contracts of the cable's reference functions: New, Cost, Set, Send, for every input. -/
import Derived.Test.YthimnnnfgangbaaCbB
set_option linter.unusedVariables false
set_option linter.unusedSimpArgs false
namespace Go.Proofs.Ythimnnnfgangbaa.Cb
open Go.RowKit Go.Proofs.YthimnnnfgangbaaW.PrintWords Go.Proofs.YthimnnnfgangbaaW.PrintLast Go.Proofs.YthimnnnfgangbaaW.PrintMore Go.Proofs.Ythimnnnfgangbaa.Qu

/-- The reference's cable, as cells. -/
abbrev wc (a b : Int) (up : Bool) (c0 c1 : Int) (lA lB : Value) : Array Value := #[.int .i64 a, .int .i64 b, .bool up, .int .i64 c0, .int .i64 c1, lA, lB]

set_option maxHeartbeats 800000 in
set_option maxRecDepth 100000 in
theorem rnew (a b : Int) (w : World) : Calls Try.prog 13 #[.int .i64 a, .int .i64 b] w fun e w' => e = .returned (.agg (wc a b false 1 1 (.slice none 0 0) (.slice none 0 0))) ∧ Below w.heap.size w w' := by
  go_enter Try.func13, Try.ntmps13
  go_wp2
  refine bodyPost_ret (results_cell_row rfl _ _ w.heap.size 43 (wc a b false 1 1 (.slice none 0 0) (.slice none 0 0)) (0, 0) _ rfl (blk_new w _) Try.underlying43 rfl (by kernel_rfl)) rfl ?_
  exact ⟨rfl, below_alloc (Below.refl _ _) _⟩
set_option maxHeartbeats 800000 in
set_option maxRecDepth 100000 in
theorem rcost (a b : Int) (up : Bool) (c0 c1 : Int) (A1 A2 : Option Addr) (n1 n2 d1 d2 : Nat) (of_ : Int) (w : World) : Calls Try.prog 19 #[.agg (wc a b up c0 c1 (.slice A1 n1 d1) (.slice A2 n2 d2)), .int .i64 of_] w fun e w' => e = .returned (.int .i64 (costF a b up c0 c1 of_)) ∧ Below w.heap.size w w' := by
  cases up
  · have hr : Aside0 (costF a b false c0 c1 of_ = 0) := ⟨rfl⟩
    rw [hr.out]
    go_enter Try.func19, Try.ntmps19
    go_wp2
    go_ret
    exact ⟨rfl, below_alloc (Below.refl _ _) _⟩
  · by_cases h0 : of_ = a
    · have hr : Aside0 (costF a b true c0 c1 of_ = c0) := ⟨by unfold costF; rw [if_pos rfl, if_pos h0.symm]⟩
      rw [hr.out]
      go_enter Try.func19, Try.ntmps19
      go_wp2
      go_ret
      exact ⟨rfl, below_alloc (Below.refl _ _) _⟩
    · by_cases h1 : of_ = b
      · have hr : Aside0 (costF a b true c0 c1 of_ = c1) := ⟨by unfold costF; rw [if_pos rfl, if_neg (fun e => h0 e.symm), if_pos h1.symm]⟩
        rw [hr.out]
        go_enter Try.func19, Try.ntmps19
        go_wp2
        go_ret
        exact ⟨rfl, below_alloc (Below.refl _ _) _⟩
      · have hr : Aside0 (costF a b true c0 c1 of_ = 0) := ⟨by unfold costF; rw [if_pos rfl, if_neg (fun e => h0 e.symm), if_neg (fun e => h1 e.symm)]⟩
        rw [hr.out]
        go_enter Try.func19, Try.ntmps19
        go_wp2
        go_ret
        exact ⟨rfl, below_alloc (Below.refl _ _) _⟩
theorem blk_at {W : World} {o : Obj} {g : Nat} (h : W.heap.size = g) : (W.alloc o).heap[g]? = some o := by subst h; exact blk_new W o
set_option maxHeartbeats 1600000 in
set_option maxRecDepth 100000 in
theorem rset_arg (a b : Int) (up : Bool) (c0 c1 : Int) (A1 A2 : Option Addr) (n1 n2 d1 d2 : Nat) (up1 : Bool) (m0 m1 : Int) (w : World) (hn : ¬ (costOk m0 ∧ costOk m1)) : Calls Try.prog 15 #[.agg (wc a b up c0 c1 (.slice A1 n1 d1) (.slice A2 n2 d2)), .bool up1, .agg #[.int .i64 m0, .int .i64 m1]] w fun e w' => e = .returned (.tuple #[.agg (wc a b up c0 c1 (.slice A1 n1 d1) (.slice A2 n2 d2)), .int .i64 1]) ∧ Below w.heap.size w w' := by
  by_cases h0 : m0 < 1
  · clear hn
    go_enter Try.func15, Try.ntmps15
    go_wp2
    refine bodyPost_ret (results_ct rfl _ _ (w.heap.size + 1 + 1) 43 (wc a b up c0 c1 (.slice A1 n1 d1) (.slice A2 n2 d2)) (0, 0) _ rfl (blk_at (by simp)) Try.underlying43 rfl (by kernel_rfl)) rfl ?_
    exact ⟨rfl, below_alloc (below_alloc (below_alloc (Below.refl _ _) _) _) _⟩
  · by_cases h1 : 1073741824 < m0
    · clear hn
      go_enter Try.func15, Try.ntmps15
      go_wp2
      refine bodyPost_ret (results_ct rfl _ _ (w.heap.size + 1 + 1) 43 (wc a b up c0 c1 (.slice A1 n1 d1) (.slice A2 n2 d2)) (0, 0) _ rfl (blk_at (by simp)) Try.underlying43 rfl (by kernel_rfl)) rfl ?_
      exact ⟨rfl, below_alloc (below_alloc (below_alloc (Below.refl _ _) _) _) _⟩
    · by_cases h2 : m1 < 1
      · clear hn
        go_enter Try.func15, Try.ntmps15
        go_wp2
        refine bodyPost_ret (results_ct rfl _ _ (w.heap.size + 1 + 1) 43 (wc a b up c0 c1 (.slice A1 n1 d1) (.slice A2 n2 d2)) (0, 0) _ rfl (blk_at (by simp)) Try.underlying43 rfl (by kernel_rfl)) rfl ?_
        exact ⟨rfl, below_alloc (below_alloc (below_alloc (Below.refl _ _) _) _) _⟩
      · have h3 : 1073741824 < m1 := by unfold costOk at hn; omega
        clear hn
        go_enter Try.func15, Try.ntmps15
        go_wp2
        refine bodyPost_ret (results_ct rfl _ _ (w.heap.size + 1 + 1) 43 (wc a b up c0 c1 (.slice A1 n1 d1) (.slice A2 n2 d2)) (0, 0) _ rfl (blk_at (by simp)) Try.underlying43 rfl (by kernel_rfl)) rfl ?_
        exact ⟨rfl, below_alloc (below_alloc (below_alloc (Below.refl _ _) _) _) _⟩
set_option maxHeartbeats 1600000 in
set_option maxRecDepth 100000 in
theorem rset_up (a b : Int) (up : Bool) (c0 c1 : Int) (A1 A2 : Option Addr) (n1 n2 d1 d2 : Nat) (m0 m1 : Int) (w : World) (h0 : costOk m0) (h1 : costOk m1) : Calls Try.prog 15 #[.agg (wc a b up c0 c1 (.slice A1 n1 d1) (.slice A2 n2 d2)), .bool true, .agg #[.int .i64 m0, .int .i64 m1]] w fun e w' => e = .returned (.tuple #[.agg (wc a b true m0 m1 (.slice A1 n1 d1) (.slice A2 n2 d2)), .int .i64 0]) ∧ Below w.heap.size w w' := by
  have i0 : ¬ m0 < 1 := by unfold costOk at h0; omega
  have i1 : ¬ 1073741824 < m0 := by unfold costOk at h0; omega
  have i2 : ¬ m1 < 1 := by unfold costOk at h1; omega
  have i3 : ¬ 1073741824 < m1 := by unfold costOk at h1; omega
  clear h0 h1
  go_enter Try.func15, Try.ntmps15
  go_wp2
  refine bodyPost_ret (results_ct rfl _ _ (w.heap.size + 1 + 1) 43 (wc a b true m0 m1 (.slice A1 n1 d1) (.slice A2 n2 d2)) (0, 0) _ rfl (blk_at (by simp)) Try.underlying43 rfl (by kernel_rfl)) rfl ?_
  exact ⟨rfl, below_alloc (below_alloc (below_alloc (Below.refl _ _) _) _) _⟩
set_option maxHeartbeats 1600000 in
set_option maxRecDepth 100000 in
theorem rset_down (a b : Int) (up : Bool) (c0 c1 : Int) (A1 A2 : Option Addr) (n1 n2 d1 d2 : Nat) (m0 m1 : Int) (w : World) (h0 : costOk m0) (h1 : costOk m1) : Calls Try.prog 15 #[.agg (wc a b up c0 c1 (.slice A1 n1 d1) (.slice A2 n2 d2)), .bool false, .agg #[.int .i64 m0, .int .i64 m1]] w fun e w' => e = .returned (.tuple #[.agg (wc a b false m0 m1 (.slice none 0 0) (.slice none 0 0)), .int .i64 0]) ∧ Below w.heap.size w w' := by
  have i0 : ¬ m0 < 1 := by unfold costOk at h0; omega
  have i1 : ¬ 1073741824 < m0 := by unfold costOk at h0; omega
  have i2 : ¬ m1 < 1 := by unfold costOk at h1; omega
  have i3 : ¬ 1073741824 < m1 := by unfold costOk at h1; omega
  clear h0 h1
  go_enter Try.func15, Try.ntmps15
  go_wp2
  refine bodyPost_ret (results_ct rfl _ _ (w.heap.size + 1 + 1) 43 (wc a b false m0 m1 (.slice none 0 0) (.slice none 0 0)) (0, 0) _ rfl (blk_at (by simp)) Try.underlying43 rfl (by kernel_rfl)) rfl ?_
  exact ⟨rfl, below_alloc (below_alloc (below_alloc (Below.refl _ _) _) _) _⟩
set_option maxHeartbeats 1600000 in
set_option maxRecDepth 100000 in
theorem rsend_arg (a b : Int) (up : Bool) (c0 c1 : Int) (A1 A2 : Option Addr) (n1 n2 d1 d2 : Nat) (of_ : Int) (A : Option Addr) (n c : Nat) (w : World) (h0 : ¬ of_ = a) (h1 : ¬ of_ = b) : Calls Try.prog 14 #[.agg (wc a b up c0 c1 (.slice A1 n1 d1) (.slice A2 n2 d2)), .int .i64 of_, .slice A n c] w fun e w' => e = .returned (.tuple #[.agg (wc a b up c0 c1 (.slice A1 n1 d1) (.slice A2 n2 d2)), .int .i64 1]) ∧ Below w.heap.size w w' := by
  have e0 : (of_ != a) = true := by simp [h0]
  have e1 : (of_ != b) = true := by simp [h1]
  go_enter Try.func14, Try.ntmps14
  go_wp2
  refine bodyPost_ret (results_ct rfl _ _ (w.heap.size + 1) 43 (wc a b up c0 c1 (.slice A1 n1 d1) (.slice A2 n2 d2)) (0, 0) _ rfl (blk_at (by simp)) Try.underlying43 rfl (by kernel_rfl)) rfl ?_
  exact ⟨rfl, below_alloc (below_alloc (Below.refl _ _) _) _⟩
set_option maxHeartbeats 1600000 in
set_option maxRecDepth 100000 in
theorem rsend_down_a (a b : Int) (c0 c1 : Int) (A1 A2 : Option Addr) (n1 n2 d1 d2 : Nat) (of_ : Int) (A : Option Addr) (n c : Nat) (w : World) (h0 : of_ = a) : Calls Try.prog 14 #[.agg (wc a b false c0 c1 (.slice A1 n1 d1) (.slice A2 n2 d2)), .int .i64 of_, .slice A n c] w fun e w' => e = .returned (.tuple #[.agg (wc a b false c0 c1 (.slice A1 n1 d1) (.slice A2 n2 d2)), .int .i64 3]) ∧ Below w.heap.size w w' := by
  have h0 := h0.symm
  subst h0
  go_enter Try.func14, Try.ntmps14
  go_wp2
  refine bodyPost_ret (results_ct rfl _ _ (w.heap.size + 1) 43 (wc a b false c0 c1 (.slice A1 n1 d1) (.slice A2 n2 d2)) (0, 0) _ rfl (blk_at (by simp)) Try.underlying43 rfl (by kernel_rfl)) rfl ?_
  exact ⟨rfl, below_alloc (below_alloc (Below.refl _ _) _) _⟩
set_option maxHeartbeats 1600000 in
set_option maxRecDepth 100000 in
theorem rsend_down_b (a b : Int) (c0 c1 : Int) (A1 A2 : Option Addr) (n1 n2 d1 d2 : Nat) (of_ : Int) (A : Option Addr) (n c : Nat) (w : World) (h0 : ¬ of_ = a) (h1 : of_ = b) : Calls Try.prog 14 #[.agg (wc a b false c0 c1 (.slice A1 n1 d1) (.slice A2 n2 d2)), .int .i64 of_, .slice A n c] w fun e w' => e = .returned (.tuple #[.agg (wc a b false c0 c1 (.slice A1 n1 d1) (.slice A2 n2 d2)), .int .i64 3]) ∧ Below w.heap.size w w' := by
  have h1 := h1.symm
  subst h1
  have e0 : (b != a) = true := by simp [h0]
  have e1 : (b == a) = false := by simp [h0]
  go_enter Try.func14, Try.ntmps14
  go_wp2
  refine bodyPost_ret (results_ct rfl _ _ (w.heap.size + 1) 43 (wc a b false c0 c1 (.slice A1 n1 d1) (.slice A2 n2 d2)) (0, 0) _ rfl (blk_at (by simp)) Try.underlying43 rfl (by kernel_rfl)) rfl ?_
  exact ⟨rfl, below_alloc (below_alloc (Below.refl _ _) _) _⟩
set_option maxHeartbeats 1600000 in
set_option maxRecDepth 100000 in
theorem rsend_full_a (a b : Int) (c0 c1 : Int) (A1 A2 : Option Addr) (n1 n2 d1 d2 : Nat) (of_ : Int) (A : Option Addr) (n c : Nat) (w : World) (h0 : of_ = a) (h2 : 32 ≤ n2) : Calls Try.prog 14 #[.agg (wc a b true c0 c1 (.slice A1 n1 d1) (.slice A2 n2 d2)), .int .i64 of_, .slice A n c] w fun e w' => e = .returned (.tuple #[.agg (wc a b true c0 c1 (.slice A1 n1 d1) (.slice A2 n2 d2)), .int .i64 4]) ∧ Below w.heap.size w w' := by
  have h0 := h0.symm
  subst h0
  have i2 : (32 : Int) ≤ (n2 : Int) := by omega
  clear h2
  go_enter Try.func14, Try.ntmps14
  go_wp2
  refine bodyPost_ret (results_ct rfl _ _ (w.heap.size + 1) 43 (wc a b true c0 c1 (.slice A1 n1 d1) (.slice A2 n2 d2)) (0, 0) _ rfl (blk_at (by simp)) Try.underlying43 rfl (by kernel_rfl)) rfl ?_
  exact ⟨rfl, below_alloc (below_alloc (Below.refl _ _) _) _⟩
set_option maxHeartbeats 1600000 in
set_option maxRecDepth 100000 in
theorem rsend_full_b (a b : Int) (c0 c1 : Int) (A1 A2 : Option Addr) (n1 n2 d1 d2 : Nat) (of_ : Int) (A : Option Addr) (n c : Nat) (w : World) (h0 : ¬ of_ = a) (h1 : of_ = b) (h2 : 32 ≤ n1) : Calls Try.prog 14 #[.agg (wc a b true c0 c1 (.slice A1 n1 d1) (.slice A2 n2 d2)), .int .i64 of_, .slice A n c] w fun e w' => e = .returned (.tuple #[.agg (wc a b true c0 c1 (.slice A1 n1 d1) (.slice A2 n2 d2)), .int .i64 4]) ∧ Below w.heap.size w w' := by
  have h1 := h1.symm
  subst h1
  have e0 : (b != a) = true := by simp [h0]
  have e1 : (b == a) = false := by simp [h0]
  have i2 : (32 : Int) ≤ (n1 : Int) := by omega
  clear h2
  go_enter Try.func14, Try.ntmps14
  go_wp2
  refine bodyPost_ret (results_ct rfl _ _ (w.heap.size + 1) 43 (wc a b true c0 c1 (.slice A1 n1 d1) (.slice A2 n2 d2)) (0, 0) _ rfl (blk_at (by simp)) Try.underlying43 rfl (by kernel_rfl)) rfl ?_
  exact ⟨rfl, below_alloc (below_alloc (Below.refl _ _) _) _⟩
set_option maxHeartbeats 1600000 in
set_option maxRecDepth 100000 in
theorem rsend_ok_a (a b : Int) (c0 c1 : Int) (A1 A2 : Option Addr) (d1 d2 : Nat) (n1 : Nat) (of_ : Int) (A : Option Addr) (c : Nat) (xs : List (List Int)) (bs : List Int) (P0 P1 : Nat → Prop) (w : World) (h0 : of_ = a) (hl : xs.length < 32) (hv : Kd.V kT 22 w w.heap.size P0 (.slice A2 xs.length d2) xs) (hb : Kd.V kB 5 w w.heap.size P1 (.slice A bs.length c) bs) :
    Calls Try.prog 14 #[.agg (wc a b true c0 c1 (.slice A1 n1 d1) (.slice A2 xs.length d2)), .int .i64 of_, .slice A bs.length c] w fun e w' => ∃ v, e = .returned (.tuple #[.agg (wc a b true c0 c1 (.slice A1 n1 d1) v), .int .i64 0]) ∧ Kd.N kT 22 w' w.heap.size (fun k => (P0 k ∨ P1 k) ∨ w.heap.size ≤ k) v (xs ++ [bs]) ∧ Below w.heap.size w w' := by
  have h0 := h0.symm
  subst h0
  have i2 : ¬ (32 : Int) ≤ (xs.length : Int) := by omega
  have HV := Aside0.mk hv
  have HX := Aside0.mk hb
  have HL := Aside0.mk hl
  clear hv hb hl
  go_enter Try.func14, Try.ntmps14
  go_wp2_with fail
  refine (waymarkref15_With.calls (fun k => P0 k ∧ k < w.heap.size) A2 d2 xs (fun k => P1 k ∧ k < w.heap.size) A c bs (xs ++ [bs]) _ (Kd.V_alloc (Kd.V_alloc (Kd.V_bound HV.out) _) _) (Kd.V_alloc (Kd.V_alloc (Kd.V_bound HX.out) _) _) (with_law xs bs (by have := HL.out; omega))).mono ?_
  rintro e w2 ⟨v, rfl, hn, hb⟩
  obtain ⟨A0v, c0v, rfl⟩ := Kd.N_slice hn
  obtain ⟨n0v, hn0⟩ : ∃ n0v, (xs ++ [bs]).length = n0v := ⟨_, rfl⟩
  rw [hn0] at hn ⊢
  have HN : Aside0 (Kd.N kT 22 w2 w.heap.size (fun k => ((P0 k ∨ P1 k) ∧ k < w.heap.size) ∨ w.heap.size + 2 ≤ k) (.slice A0v n0v c0v) (xs ++ [bs])) := ⟨Kd.N_mono (Kd.N_lower hn (by simp; omega)) (fun k hk => by
    rcases hk with (hk | hk) | hk
    · exact .inl ⟨.inl hk.1, hk.2⟩
    · exact .inl ⟨.inr hk.1, hk.2⟩
    · refine .inr ?_
      simp at hk
      omega)⟩
  have B0 := Aside0.mk (blk_below (blk_alloc (blk_new w (Obj.cells (wc a b true c0 c1 (.slice A1 n1 d1) (.slice A2 xs.length d2)) 43)) (Obj.cells #[.int .i64 0, .int .i64 0, .bool false, .int .i64 0, .int .i64 0, .slice none 0 0, .slice none 0 0] 43)) hb)
  have B1 : Aside0 (w2.heap[w.heap.size + 1]? = some (.cells #[.int .i64 0, .int .i64 0, .bool false, .int .i64 0, .int .i64 0, .slice none 0 0, .slice none 0 0] 43 (0, 0))) := ⟨blk_below (blk_at (by simp)) hb⟩
  have HB := Aside0.mk (below_step (below_alloc (below_alloc (Below.refl w.heap.size w) (Obj.cells (wc a b true c0 c1 (.slice A1 n1 d1) (.slice A2 xs.length d2)) 43)) (Obj.cells #[.int .i64 0, .int .i64 0, .bool false, .int .i64 0, .int .i64 0, .slice none 0 0, .slice none 0 0] 43)) hb)
  clear hn hn0 hb
  obtain ⟨g0, hg0⟩ : ∃ g0, w.heap.size = g0 := ⟨_, rfl⟩
  have HG0 := Aside0.mk hg0
  rw [hg0] at B0 B1 ⊢
  clear hg0
  have k6 := blk_cell B0.out 6
  have f6 := blk_frozen B0.out 6
  simp at k6
  go_upto_region 9 with (fail)
  refine wp_world (fun W => Aside0 (W.heap[g0]? = some (.cells (wc a b true c0 c1 (.slice A1 n1 d1) (.slice A0v n0v c0v)) 43 (0, 0))) ∧ Aside0 (W.heap[g0 + 1]? = some (.cells #[.int .i64 0, .int .i64 0, .bool false, .int .i64 0, .int .i64 0, .slice none 0 0, .slice none 0 0] 43 (0, 0))) ∧ Aside0 (Kept w2 W (fun k => k = g0 ∨ k = g0 + 1)) ∧ Aside0 (Below g0 w W)) ⟨⟨by have h3 := blk_set B0.out 6 (.slice A0v n0v c0v); simpa [wc] using h3⟩, ⟨blk_far B1.out (p := ⟨g0, 6, none⟩) (by simp) _⟩, ⟨(Kept.refl w2 _).setCell (p := ⟨g0, 6, none⟩) (.inl (.inl rfl)) _⟩, ⟨(HG0.out ▸ HB.out).setCell (Nat.le_refl _) _⟩⟩ ?_
  clear k6 f6 B0 B1 HB
  rintro w3 ⟨B0, B1, HK, HB⟩
  have k0 := blk_cell B0.out 0
  have k1 := blk_cell B0.out 1
  have k2 := blk_cell B0.out 2
  have k3 := blk_cell B0.out 3
  have k4 := blk_cell B0.out 4
  have k5 := blk_cell B0.out 5
  have k6 := blk_cell B0.out 6
  have e0 := blk_cell B1.out 0
  have e1 := blk_cell B1.out 1
  have e2 := blk_cell B1.out 2
  have e3 := blk_cell B1.out 3
  have e4 := blk_cell B1.out 4
  have e5 := blk_cell B1.out 5
  have e6 := blk_cell B1.out 6
  have f0 := blk_frozen B1.out 0
  have f1 := blk_frozen B1.out 1
  have f2 := blk_frozen B1.out 2
  have f3 := blk_frozen B1.out 3
  have f4 := blk_frozen B1.out 4
  have f5 := blk_frozen B1.out 5
  have f6 := blk_frozen B1.out 6
  simp at k0 k1 k2 k3 k4 k5 k6 e0 e1 e2 e3 e4 e5 e6
  go_wp2_with fail
  have hf := blk_set (blk_set (blk_set (blk_set (blk_set (blk_set (blk_set (B1.out) 0 (.int .i64 a)) 1 (.int .i64 b)) 2 (.bool true)) 3 (.int .i64 c0)) 4 (.int .i64 c1)) 5 (.slice A1 n1 d1)) 6 (.slice A0v n0v c0v)
  have hk := (((((((HK.out).setCell (p := ⟨g0 + 1, 0, none⟩) (.inl (.inr rfl)) (.int .i64 a)).setCell (p := ⟨g0 + 1, 1, none⟩) (.inl (.inr rfl)) (.int .i64 b)).setCell (p := ⟨g0 + 1, 2, none⟩) (.inl (.inr rfl)) (.bool true)).setCell (p := ⟨g0 + 1, 3, none⟩) (.inl (.inr rfl)) (.int .i64 c0)).setCell (p := ⟨g0 + 1, 4, none⟩) (.inl (.inr rfl)) (.int .i64 c1)).setCell (p := ⟨g0 + 1, 5, none⟩) (.inl (.inr rfl)) (.slice A1 n1 d1)).setCell (p := ⟨g0 + 1, 6, none⟩) (.inl (.inr rfl)) (.slice A0v n0v c0v)
  have hb := (((((((HB.out).setCell (p := ⟨g0 + 1, 0, none⟩) (Nat.le_succ _) (.int .i64 a)).setCell (p := ⟨g0 + 1, 1, none⟩) (Nat.le_succ _) (.int .i64 b)).setCell (p := ⟨g0 + 1, 2, none⟩) (Nat.le_succ _) (.bool true)).setCell (p := ⟨g0 + 1, 3, none⟩) (Nat.le_succ _) (.int .i64 c0)).setCell (p := ⟨g0 + 1, 4, none⟩) (Nat.le_succ _) (.int .i64 c1)).setCell (p := ⟨g0 + 1, 5, none⟩) (Nat.le_succ _) (.slice A1 n1 d1)).setCell (p := ⟨g0 + 1, 6, none⟩) (Nat.le_succ _) (.slice A0v n0v c0v)
  have hs := HG0.out
  have hN := Kd.N_mono (Kd.N_kept HN.out hk (fun k hk' e => by
    rcases hk' with hk' | hk' <;> rcases e with e | e <;> omega)) (ok' := fun k => (P0 k ∨ P1 k) ∨ w.heap.size ≤ k) (fun k hk' => by
    rcases hk' with hk' | hk'
    · exact .inl hk'.1
    · exact .inr (by omega))
  refine bodyPost_ret (results_ct rfl _ _ (g0 + 1) 43 (wc a b true c0 c1 (.slice A1 n1 d1) (.slice A0v n0v c0v)) (0, 0) _ rfl (by simpa [wc] using hf) Try.underlying43 rfl (by kernel_rfl)) rfl ?_
  exact ⟨_, rfl, hN, hs ▸ hb⟩
set_option maxHeartbeats 1600000 in
set_option maxRecDepth 100000 in
theorem rsend_ok_b (a b : Int) (c0 c1 : Int) (A1 A2 : Option Addr) (d1 d2 : Nat) (n2 : Nat) (of_ : Int) (A : Option Addr) (c : Nat) (xs : List (List Int)) (bs : List Int) (P0 P1 : Nat → Prop) (w : World) (h0 : ¬ of_ = a) (h1 : of_ = b) (hl : xs.length < 32) (hv : Kd.V kT 22 w w.heap.size P0 (.slice A1 xs.length d1) xs) (hb : Kd.V kB 5 w w.heap.size P1 (.slice A bs.length c) bs) :
    Calls Try.prog 14 #[.agg (wc a b true c0 c1 (.slice A1 xs.length d1) (.slice A2 n2 d2)), .int .i64 of_, .slice A bs.length c] w fun e w' => ∃ v, e = .returned (.tuple #[.agg (wc a b true c0 c1 v (.slice A2 n2 d2)), .int .i64 0]) ∧ Kd.N kT 22 w' w.heap.size (fun k => (P0 k ∨ P1 k) ∨ w.heap.size ≤ k) v (xs ++ [bs]) ∧ Below w.heap.size w w' := by
  have h1 := h1.symm
  subst h1
  have e0 : (b != a) = true := by simp [h0]
  have e1 : (b == a) = false := by simp [h0]
  have i2 : ¬ (32 : Int) ≤ (xs.length : Int) := by omega
  have HV := Aside0.mk hv
  have HX := Aside0.mk hb
  have HL := Aside0.mk hl
  clear hv hb hl
  go_enter Try.func14, Try.ntmps14
  go_wp2_with fail
  refine (waymarkref15_With.calls (fun k => P0 k ∧ k < w.heap.size) A1 d1 xs (fun k => P1 k ∧ k < w.heap.size) A c bs (xs ++ [bs]) _ (Kd.V_alloc (Kd.V_alloc (Kd.V_bound HV.out) _) _) (Kd.V_alloc (Kd.V_alloc (Kd.V_bound HX.out) _) _) (with_law xs bs (by have := HL.out; omega))).mono ?_
  rintro e w2 ⟨v, rfl, hn, hb⟩
  obtain ⟨A0v, c0v, rfl⟩ := Kd.N_slice hn
  obtain ⟨n0v, hn0⟩ : ∃ n0v, (xs ++ [bs]).length = n0v := ⟨_, rfl⟩
  rw [hn0] at hn ⊢
  have HN : Aside0 (Kd.N kT 22 w2 w.heap.size (fun k => ((P0 k ∨ P1 k) ∧ k < w.heap.size) ∨ w.heap.size + 2 ≤ k) (.slice A0v n0v c0v) (xs ++ [bs])) := ⟨Kd.N_mono (Kd.N_lower hn (by simp; omega)) (fun k hk => by
    rcases hk with (hk | hk) | hk
    · exact .inl ⟨.inl hk.1, hk.2⟩
    · exact .inl ⟨.inr hk.1, hk.2⟩
    · refine .inr ?_
      simp at hk
      omega)⟩
  have B0 := Aside0.mk (blk_below (blk_alloc (blk_new w (Obj.cells (wc a b true c0 c1 (.slice A1 xs.length d1) (.slice A2 n2 d2)) 43)) (Obj.cells #[.int .i64 0, .int .i64 0, .bool false, .int .i64 0, .int .i64 0, .slice none 0 0, .slice none 0 0] 43)) hb)
  have B1 : Aside0 (w2.heap[w.heap.size + 1]? = some (.cells #[.int .i64 0, .int .i64 0, .bool false, .int .i64 0, .int .i64 0, .slice none 0 0, .slice none 0 0] 43 (0, 0))) := ⟨blk_below (blk_at (by simp)) hb⟩
  have HB := Aside0.mk (below_step (below_alloc (below_alloc (Below.refl w.heap.size w) (Obj.cells (wc a b true c0 c1 (.slice A1 xs.length d1) (.slice A2 n2 d2)) 43)) (Obj.cells #[.int .i64 0, .int .i64 0, .bool false, .int .i64 0, .int .i64 0, .slice none 0 0, .slice none 0 0] 43)) hb)
  clear hn hn0 hb
  obtain ⟨g0, hg0⟩ : ∃ g0, w.heap.size = g0 := ⟨_, rfl⟩
  have HG0 := Aside0.mk hg0
  rw [hg0] at B0 B1 ⊢
  clear hg0
  have k5 := blk_cell B0.out 5
  have f5 := blk_frozen B0.out 5
  simp at k5
  go_upto_region 13 with (fail)
  refine wp_world (fun W => Aside0 (W.heap[g0]? = some (.cells (wc a b true c0 c1 (.slice A0v n0v c0v) (.slice A2 n2 d2)) 43 (0, 0))) ∧ Aside0 (W.heap[g0 + 1]? = some (.cells #[.int .i64 0, .int .i64 0, .bool false, .int .i64 0, .int .i64 0, .slice none 0 0, .slice none 0 0] 43 (0, 0))) ∧ Aside0 (Kept w2 W (fun k => k = g0 ∨ k = g0 + 1)) ∧ Aside0 (Below g0 w W)) ⟨⟨by have h3 := blk_set B0.out 5 (.slice A0v n0v c0v); simpa [wc] using h3⟩, ⟨blk_far B1.out (p := ⟨g0, 5, none⟩) (by simp) _⟩, ⟨(Kept.refl w2 _).setCell (p := ⟨g0, 5, none⟩) (.inl (.inl rfl)) _⟩, ⟨(HG0.out ▸ HB.out).setCell (Nat.le_refl _) _⟩⟩ ?_
  clear k5 f5 B0 B1 HB
  rintro w3 ⟨B0, B1, HK, HB⟩
  have k0 := blk_cell B0.out 0
  have k1 := blk_cell B0.out 1
  have k2 := blk_cell B0.out 2
  have k3 := blk_cell B0.out 3
  have k4 := blk_cell B0.out 4
  have k5 := blk_cell B0.out 5
  have k6 := blk_cell B0.out 6
  have e0 := blk_cell B1.out 0
  have e1 := blk_cell B1.out 1
  have e2 := blk_cell B1.out 2
  have e3 := blk_cell B1.out 3
  have e4 := blk_cell B1.out 4
  have e5 := blk_cell B1.out 5
  have e6 := blk_cell B1.out 6
  have f0 := blk_frozen B1.out 0
  have f1 := blk_frozen B1.out 1
  have f2 := blk_frozen B1.out 2
  have f3 := blk_frozen B1.out 3
  have f4 := blk_frozen B1.out 4
  have f5 := blk_frozen B1.out 5
  have f6 := blk_frozen B1.out 6
  simp at k0 k1 k2 k3 k4 k5 k6 e0 e1 e2 e3 e4 e5 e6
  go_wp2_with fail
  have hf := blk_set (blk_set (blk_set (blk_set (blk_set (blk_set (blk_set (B1.out) 0 (.int .i64 a)) 1 (.int .i64 b)) 2 (.bool true)) 3 (.int .i64 c0)) 4 (.int .i64 c1)) 5 (.slice A0v n0v c0v)) 6 (.slice A2 n2 d2)
  have hk := (((((((HK.out).setCell (p := ⟨g0 + 1, 0, none⟩) (.inl (.inr rfl)) (.int .i64 a)).setCell (p := ⟨g0 + 1, 1, none⟩) (.inl (.inr rfl)) (.int .i64 b)).setCell (p := ⟨g0 + 1, 2, none⟩) (.inl (.inr rfl)) (.bool true)).setCell (p := ⟨g0 + 1, 3, none⟩) (.inl (.inr rfl)) (.int .i64 c0)).setCell (p := ⟨g0 + 1, 4, none⟩) (.inl (.inr rfl)) (.int .i64 c1)).setCell (p := ⟨g0 + 1, 5, none⟩) (.inl (.inr rfl)) (.slice A0v n0v c0v)).setCell (p := ⟨g0 + 1, 6, none⟩) (.inl (.inr rfl)) (.slice A2 n2 d2)
  have hb := (((((((HB.out).setCell (p := ⟨g0 + 1, 0, none⟩) (Nat.le_succ _) (.int .i64 a)).setCell (p := ⟨g0 + 1, 1, none⟩) (Nat.le_succ _) (.int .i64 b)).setCell (p := ⟨g0 + 1, 2, none⟩) (Nat.le_succ _) (.bool true)).setCell (p := ⟨g0 + 1, 3, none⟩) (Nat.le_succ _) (.int .i64 c0)).setCell (p := ⟨g0 + 1, 4, none⟩) (Nat.le_succ _) (.int .i64 c1)).setCell (p := ⟨g0 + 1, 5, none⟩) (Nat.le_succ _) (.slice A0v n0v c0v)).setCell (p := ⟨g0 + 1, 6, none⟩) (Nat.le_succ _) (.slice A2 n2 d2)
  have hs := HG0.out
  have hN := Kd.N_mono (Kd.N_kept HN.out hk (fun k hk' e => by
    rcases hk' with hk' | hk' <;> rcases e with e | e <;> omega)) (ok' := fun k => (P0 k ∨ P1 k) ∨ w.heap.size ≤ k) (fun k hk' => by
    rcases hk' with hk' | hk'
    · exact .inl hk'.1
    · exact .inr (by omega))
  refine bodyPost_ret (results_ct rfl _ _ (g0 + 1) 43 (wc a b true c0 c1 (.slice A0v n0v c0v) (.slice A2 n2 d2)) (0, 0) _ rfl (by simpa [wc] using hf) Try.underlying43 rfl (by kernel_rfl)) rfl ?_
  exact ⟨_, rfl, hN, hs ▸ hb⟩
end Go.Proofs.Ythimnnnfgangbaa.Cb
