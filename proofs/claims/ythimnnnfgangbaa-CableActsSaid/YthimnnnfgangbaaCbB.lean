/- Contracts of the cable's New, Send, Set, for every input. -/
import Derived.Test.YthimnnnfgangbaaCbA
import Derived.BigRegion
set_option linter.unusedVariables false
set_option linter.unusedSimpArgs false
namespace Go.Proofs.Ythimnnnfgangbaa.Cb
open Go.RowKit Go.Proofs.YthimnnnfgangbaaW.PrintWords Go.Proofs.YthimnnnfgangbaaW.PrintLast Go.Proofs.YthimnnnfgangbaaW.PrintMore Go.Proofs.Ythimnnnfgangbaa.Qu

set_option maxHeartbeats 800000 in
set_option maxRecDepth 100000 in
theorem cnew_bad (a b : Int) (w : World) (h : ¬ (1 ≤ a ∧ a < b ∧ b ≤ 64)) : Calls Try.prog 12 #[.int .i64 a, .int .i64 b] w fun e w' => e = .returned (.tuple #[.pointer none, .int .i64 1]) ∧ w' = w := by
  by_cases h0 : a < 1
  · clear h
    go_enter Try.func12, Try.ntmps12
    go_wp2
    go_ret2
    exact ⟨rfl, rfl⟩
  · by_cases h1 : b ≤ a
    · clear h
      go_enter Try.func12, Try.ntmps12
      go_wp2
      go_ret2
      exact ⟨rfl, rfl⟩
    · have h2 : 64 < b := by omega
      clear h
      go_enter Try.func12, Try.ntmps12
      go_wp2
      go_ret2
      exact ⟨rfl, rfl⟩
set_option maxHeartbeats 800000 in
set_option maxRecDepth 100000 in
theorem cnew_ok (a b : Int) (w : World) (h0 : 1 ≤ a) (h1 : a < b) (h2 : b ≤ 64) : Calls Try.prog 12 #[.int .i64 a, .int .i64 b] w fun e w' => ∃ g q0 q1, e = .returned (.tuple #[.pointer (some ⟨g, 0, none⟩), .int .i64 0]) ∧ w.heap.size ≤ g ∧ q0 < q1 ∧ CB w' g a b false 1 1 (some ⟨q0, 0, none⟩) (some ⟨q1, 0, none⟩) ∧ QL w.heap.size w' q0 (.slice none 0 0) [] (fun _ => False) ∧ QL w.heap.size w' q1 (.slice none 0 0) [] (fun _ => False) ∧ Below w.heap.size w w' := by
  have i0 : ¬ a < 1 := by omega
  have i1 : ¬ b ≤ a := by omega
  have i2 : ¬ 64 < b := by omega
  clear h0 h1 h2
  go_enter Try.func12, Try.ntmps12
  go_wp2_with fail
  refine (new_calls w).mono ?_
  rintro e w1 ⟨q0, rfl, hg, hq, hb⟩
  have HQ := Aside0.mk hq
  have HB := Aside0.mk hb
  clear hg hq hb
  go_wp2_with fail
  refine (new_calls w1).mono ?_
  rintro e w2 ⟨q1, rfl, hg, hq, hb⟩
  have HG := Aside0.mk hg
  have HQ2 := Aside0.mk hq
  have HB2 := Aside0.mk hb
  clear hg hq hb
  go_wp2
  go_ret2
  refine ⟨_, q0, q1, rfl, ?_, ?_, blk_new w2 _, ?_, ?_, below_alloc (below_step HB.out HB2.out) _⟩
  · exact Nat.le_trans HB.out.size HB2.out.size
  · have := blk_lt HQ.out.1
    have := HG.out
    omega
  · exact (HQ.out.below HB2.out).below (below_alloc (Below.refl _ _) _)
  · obtain ⟨k1, k2, k3, k4⟩ := HQ2.out.below (below_alloc (Below.refl _ _) (Obj.cells #[.int .i64 a, .int .i64 b, .bool false, .int .i64 1, .int .i64 1, .pointer (some ⟨q0, 0, none⟩), .pointer (some ⟨q1, 0, none⟩)] 29))
    exact ⟨k1, Nat.le_trans HB.out.size k2, Kd.N_lower k3 HB.out.size, k4⟩

set_option maxHeartbeats 800000 in
set_option maxRecDepth 100000 in
theorem send_arg (g : Nat) (a b : Int) (up : Bool) (c0 c1 : Int) (p : Addr) (p1 : Option Addr) (of_ : Int) (A : Option Addr) (n c : Nat) (w : World) (h : CB w g a b up c0 c1 (some p) p1) (hs : sideF a b of_ = -1) : Calls Try.prog 10 #[.pointer (some ⟨g, 0, none⟩), .int .i64 of_, .slice A n c] w fun e w' => e = .returned (.int .i64 1) ∧ w' = w := by
  have H := Aside0.mk h
  have hs := Aside0.mk hs
  clear h
  go_enter Try.func10, Try.ntmps10
  go_wp2_with fail
  refine (is_yes g a b up c0 c1 p p1 _ H.out).mono ?_
  rintro e w1 ⟨rfl, rfl⟩
  go_wp2_with fail
  refine (side_yes g a b up c0 c1 p p1 of_ _ H.out).mono ?_
  rw [hs.out]
  rintro e w1 ⟨rfl, rfl⟩
  go_wp2
  go_ret
  exact ⟨rfl, rfl⟩
set_option maxHeartbeats 800000 in
set_option maxRecDepth 100000 in
theorem send_down (g : Nat) (a b : Int) (c0 c1 : Int) (p : Addr) (p1 : Option Addr) (of_ : Int) (A : Option Addr) (n c : Nat) (w : World) (h : CB w g a b false c0 c1 (some p) p1) (hs : sideF a b of_ = 0 ∨ sideF a b of_ = 1) : Calls Try.prog 10 #[.pointer (some ⟨g, 0, none⟩), .int .i64 of_, .slice A n c] w fun e w' => e = .returned (.int .i64 3) ∧ w' = w := by
  have k2 := blk_cell h 2
  have H := Aside0.mk h
  clear h
  simp at k2
  rcases hs with hs | hs
  · have hs := Aside0.mk hs
    go_enter Try.func10, Try.ntmps10
    go_wp2_with fail
    refine (is_yes g a b false c0 c1 p p1 _ H.out).mono ?_
    rintro e w1 ⟨rfl, rfl⟩
    go_wp2_with fail
    refine (side_yes g a b false c0 c1 p p1 of_ _ H.out).mono ?_
    rw [hs.out]
    rintro e w1 ⟨rfl, rfl⟩
    go_wp2
    go_ret
    exact ⟨rfl, rfl⟩
  · have hs := Aside0.mk hs
    go_enter Try.func10, Try.ntmps10
    go_wp2_with fail
    refine (is_yes g a b false c0 c1 p p1 _ H.out).mono ?_
    rintro e w1 ⟨rfl, rfl⟩
    go_wp2_with fail
    refine (side_yes g a b false c0 c1 p p1 of_ _ H.out).mono ?_
    rw [hs.out]
    rintro e w1 ⟨rfl, rfl⟩
    go_wp2
    go_ret
    exact ⟨rfl, rfl⟩
/-- What a call on the queue at t with a text tells of Send. -/
theorem send_via (K : World → Prop) (g : Nat) (a b : Int) (c0 c1 : Int) (p t : Addr) (p1 : Option Addr) (of_ : Int) (A : Option Addr) (n c : Nat) (w : World) (h : CB w g a b true c0 c1 (some p) p1) (hs : (sideF a b of_ = 0 ∧ p1 = some t) ∨ (sideF a b of_ = 1 ∧ p = t))
    (r : Int) (hput : Calls Try.prog 25 #[.pointer (some t), .slice A n c] w fun e w' => e = .returned (.int .i64 r) ∧ K w') : Calls Try.prog 10 #[.pointer (some ⟨g, 0, none⟩), .int .i64 of_, .slice A n c] w fun e w' => e = .returned (.int .i64 r) ∧ K w' := by
  have k2 := blk_cell h 2
  have k5 := blk_cell h 5
  have k6 := blk_cell h 6
  have H := Aside0.mk h
  have hp := Aside0.mk hput
  clear h hput
  simp at k2 k5 k6
  rcases hs with ⟨hs, rfl⟩ | ⟨hs, rfl⟩
  · have hs := Aside0.mk hs
    go_enter Try.func10, Try.ntmps10
    go_wp2_with fail
    refine (is_yes g a b true c0 c1 p (some t) _ H.out).mono ?_
    rintro e w1 ⟨rfl, rfl⟩
    go_wp2_with fail
    refine (side_yes g a b true c0 c1 p (some t) of_ _ H.out).mono ?_
    rw [hs.out]
    rintro e w1 ⟨rfl, rfl⟩
    go_wp2_with fail
    refine hp.out.mono ?_
    rintro e w2 ⟨rfl, hk⟩
    have HK := Aside0.mk hk
    clear hk
    go_wp2
    go_ret
    exact ⟨rfl, HK.out⟩
  · have hs := Aside0.mk hs
    go_enter Try.func10, Try.ntmps10
    go_wp2_with fail
    refine (is_yes g a b true c0 c1 p p1 _ H.out).mono ?_
    rintro e w1 ⟨rfl, rfl⟩
    go_wp2_with fail
    refine (side_yes g a b true c0 c1 p p1 of_ _ H.out).mono ?_
    rw [hs.out]
    rintro e w1 ⟨rfl, rfl⟩
    go_wp2_with fail
    refine hp.out.mono ?_
    rintro e w2 ⟨rfl, hk⟩
    have HK := Aside0.mk hk
    clear hk
    go_wp2
    go_ret
    exact ⟨rfl, HK.out⟩
set_option maxHeartbeats 1600000 in
set_option maxRecDepth 100000 in
theorem set_none (up : Bool) (n0 n1 : Int) (w : World) : Calls Try.prog 9 #[.pointer none, .bool up, .agg #[.int .i64 n0, .int .i64 n1]] w fun e w' => e = .returned (.int .i64 6) ∧ Below w.heap.size w w' := by
  go_enter Try.func9, Try.ntmps9
  go_wp2_with fail
  refine (is_none _).mono ?_
  rintro e w1 ⟨rfl, rfl⟩
  go_wp2
  go_ret
  exact ⟨rfl, below_alloc (Below.refl _ _) _⟩
set_option maxHeartbeats 1600000 in
set_option maxRecDepth 100000 in
theorem set_bare (g : Nat) (a b : Int) (up0 : Bool) (c0 c1 : Int) (p1 : Option Addr) (up : Bool) (n0 n1 : Int) (w : World) (h : CB w g a b up0 c0 c1 none p1) : Calls Try.prog 9 #[.pointer (some ⟨g, 0, none⟩), .bool up, .agg #[.int .i64 n0, .int .i64 n1]] w fun e w' => e = .returned (.int .i64 6) ∧ Below w.heap.size w w' := by
  have H := Aside0.mk h
  clear h
  go_enter Try.func9, Try.ntmps9
  go_wp2_with fail
  refine (is_bare g a b up0 c0 c1 p1 _ (H.out.below (below_alloc (Below.refl _ _) _))).mono ?_
  rintro e w1 ⟨rfl, rfl⟩
  go_wp2
  go_ret
  exact ⟨rfl, below_alloc (Below.refl _ _) _⟩
/-- Costs that may be. -/
def costOk (n : Int) : Prop := 1 ≤ n ∧ n ≤ 1073741824
set_option maxHeartbeats 1600000 in
set_option maxRecDepth 100000 in
theorem set_arg (g : Nat) (a b : Int) (up0 : Bool) (c0 c1 : Int) (p : Addr) (p1 : Option Addr) (up : Bool) (n0 n1 : Int) (w : World) (h : CB w g a b up0 c0 c1 (some p) p1) (hn : ¬ (costOk n0 ∧ costOk n1)) : Calls Try.prog 9 #[.pointer (some ⟨g, 0, none⟩), .bool up, .agg #[.int .i64 n0, .int .i64 n1]] w fun e w' => e = .returned (.int .i64 1) ∧ Below w.heap.size w w' := by
  have H := Aside0.mk h
  clear h
  have j0 := fun w => index25_0 (.int .i64 n0) (.int .i64 n1) w
  have j1 := fun w => index25_1 (.int .i64 n0) (.int .i64 n1) w
  by_cases h0 : n0 < 1
  · clear hn
    go_enter Try.func9, Try.ntmps9
    go_wp2_with fail
    refine (is_yes g a b up0 c0 c1 p p1 _ (H.out.below (below_alloc (Below.refl _ _) _))).mono ?_
    rintro e w1 ⟨rfl, rfl⟩
    go_wp2_with fail
    refine wp_loop_rounds 3 ?_
    rw [rounds_succ]
    go_wp2
    go_ret
    exact ⟨rfl, below_alloc (Below.refl _ _) _⟩
  · by_cases h1 : 1073741824 < n0
    · clear hn
      go_enter Try.func9, Try.ntmps9
      go_wp2_with fail
      refine (is_yes g a b up0 c0 c1 p p1 _ (H.out.below (below_alloc (Below.refl _ _) _))).mono ?_
      rintro e w1 ⟨rfl, rfl⟩
      go_wp2_with fail
      refine wp_loop_rounds 3 ?_
      rw [rounds_succ]
      go_wp2
      go_ret
      exact ⟨rfl, below_alloc (Below.refl _ _) _⟩
    · by_cases h2 : n1 < 1
      · clear hn
        go_enter Try.func9, Try.ntmps9
        go_wp2_with fail
        refine (is_yes g a b up0 c0 c1 p p1 _ (H.out.below (below_alloc (Below.refl _ _) _))).mono ?_
        rintro e w1 ⟨rfl, rfl⟩
        go_wp2_with fail
        refine wp_loop_rounds 3 ?_
        rw [rounds_succ]
        go_wp2
        rw [rounds_succ]
        go_wp2
        go_ret
        exact ⟨rfl, below_alloc (Below.refl _ _) _⟩
      · have h3 : 1073741824 < n1 := by unfold costOk at hn; omega
        clear hn
        go_enter Try.func9, Try.ntmps9
        go_wp2_with fail
        refine (is_yes g a b up0 c0 c1 p p1 _ (H.out.below (below_alloc (Below.refl _ _) _))).mono ?_
        rintro e w1 ⟨rfl, rfl⟩
        go_wp2_with fail
        refine wp_loop_rounds 3 ?_
        rw [rounds_succ]
        go_wp2
        rw [rounds_succ]
        go_wp2
        go_ret
        exact ⟨rfl, below_alloc (Below.refl _ _) _⟩
set_option maxHeartbeats 1600000 in
set_option maxRecDepth 100000 in
theorem set_up (g : Nat) (a b : Int) (up0 : Bool) (c0 c1 : Int) (p : Addr) (p1 : Option Addr) (n0 n1 : Int) (w : World) (h : CB w g a b up0 c0 c1 (some p) p1) (h0 : costOk n0) (h1 : costOk n1) : Calls Try.prog 9 #[.pointer (some ⟨g, 0, none⟩), .bool true, .agg #[.int .i64 n0, .int .i64 n1]] w fun e w' => e = .returned (.int .i64 0) ∧ CB w' g a b true n0 n1 (some p) p1 ∧ KeepBut w w' g none ∧ ∀ B, B ≤ g → Below B w w' := by
  have H := Aside0.mk h
  have j0 := fun w => index25_0 (.int .i64 n0) (.int .i64 n1) w
  have j1 := fun w => index25_1 (.int .i64 n0) (.int .i64 n1) w
  have i0 : ¬ n0 < 1 := by unfold costOk at h0; omega
  have i1 : ¬ 1073741824 < n0 := by unfold costOk at h0; omega
  have i2 : ¬ n1 < 1 := by unfold costOk at h1; omega
  have i3 : ¬ 1073741824 < n1 := by unfold costOk at h1; omega
  clear h h0 h1
  go_enter Try.func9, Try.ntmps9
  go_wp2_with fail
  refine (is_yes g a b up0 c0 c1 p p1 _ (H.out.below (below_alloc (Below.refl _ _) _))).mono ?_
  rintro e w1 ⟨rfl, rfl⟩
  go_wp2_with fail
  refine wp_loop_rounds 3 ?_
  rw [rounds_succ]
  go_wp2
  rw [rounds_succ]
  go_wp2
  rw [rounds_succ]
  go_upto_region 9 with (fail)
  obtain ⟨gb, hgb⟩ : ∃ gb, w.heap.size = gb := ⟨_, rfl⟩
  rw [hgb]
  refine wp_world (fun W => Aside0 (CB W g a b up0 c0 c1 (some p) p1) ∧ Aside0 (W.heap[gb]? = some (.cells #[.int .i64 n0, .int .i64 n1] 25 (0, 0))) ∧ Aside0 (Below w.heap.size w W)) ⟨⟨H.out.below (below_alloc (Below.refl _ _) _)⟩, ⟨by subst hgb; exact blk_new w _⟩, ⟨below_alloc (Below.refl _ _) _⟩⟩ ?_
  have HG := Aside0.mk (blk_lt H.out)
  clear hgb H
  rintro w2 ⟨H, HX, HB⟩
  have k2 := blk_cell H.out 2
  have k3 := blk_cell H.out 3
  have k4 := blk_cell H.out 4
  have f2 := blk_frozen H.out 2
  have f3 := blk_frozen H.out 3
  have f4 := blk_frozen H.out 4
  have b0 := blk_cell HX.out 0
  have b1 := blk_cell HX.out 1
  simp at k2 k3 k4 b0 b1
  go_region
  go_wp2_with fail
  have hC : CB (((w2.setCell ⟨g, 2, none⟩ (.bool true)).setCell ⟨g, 3, none⟩ (.int .i64 n0)).setCell ⟨g, 4, none⟩ (.int .i64 n1)) g a b true n0 n1 (some p) p1 := by
    have h3 := blk_set (blk_set (blk_set H.out 2 (.bool true)) 3 (.int .i64 n0)) 4 (.int .i64 n1)
    simpa [CB] using h3
  have HC := Aside0.mk hC
  clear hC
  go_ret
  exact ⟨rfl, HC.out, (((KeepBut.of_below HB.out g none).set_ 2 _).set_ 3 _).set_ 4 _, fun B hB => below_drew ((((HB.out.mono (show B ≤ w.heap.size from by have := HG.out; omega)).setCell (p := ⟨g, 2, none⟩) hB _).setCell (p := ⟨g, 3, none⟩) hB _).setCell (p := ⟨g, 4, none⟩) hB _)⟩
set_option maxHeartbeats 400000 in
set_option maxRecDepth 100000 in
theorem clear_raw (g : Nat) (v : Value) (w : World) (h : w.heap[g]? = some (.cells #[v] 63 (0, 0))) :
    Calls Try.prog 24 #[.pointer (some ⟨g, 0, none⟩)] w fun e w' => e = .returned (.tuple #[]) ∧ w' = w.setCell ⟨g, 0, none⟩ (.slice none 0 0) := by
  have c0 := blk_cell h 0
  have f0 := blk_frozen h 0
  clear h
  simp at c0
  go_enter Try.func24, Try.ntmps24
  go_wp2
  go_end0
  exact ⟨rfl, rfl⟩
theorem index27_0 (x y : Value) (w : World) : (Instr.index 27 (.agg #[x, y]) (.int .i64 0)).run Try.prog w = .ok x w := by kernel_rfl
theorem index27_1 (x y : Value) (w : World) : (Instr.index 27 (.agg #[x, y]) (.int .i64 1)).run Try.prog w = .ok y w := by kernel_rfl
set_option maxHeartbeats 1600000 in
set_option maxRecDepth 100000 in
theorem set_down (g : Nat) (a b : Int) (up0 : Bool) (c0 c1 : Int) (q0 q1 : Nat) (v0 v1 : Value) (n0 n1 : Int) (w : World) (h : CB w g a b up0 c0 c1 (some ⟨q0, 0, none⟩) (some ⟨q1, 0, none⟩)) (hq0 : w.heap[q0]? = some (.cells #[v0] 63 (0, 0))) (hq1 : w.heap[q1]? = some (.cells #[v1] 63 (0, 0))) (hne : q0 ≠ q1) (h0 : costOk n0) (h1 : costOk n1) : Calls Try.prog 9 #[.pointer (some ⟨g, 0, none⟩), .bool false, .agg #[.int .i64 n0, .int .i64 n1]] w fun e w' => e = .returned (.int .i64 0) ∧ CB w' g a b false n0 n1 (some ⟨q0, 0, none⟩) (some ⟨q1, 0, none⟩) ∧ w'.heap[q0]? = some (.cells #[.slice none 0 0] 63 (0, 0)) ∧ w'.heap[q1]? = some (.cells #[.slice none 0 0] 63 (0, 0)) ∧ Kept w w' (fun k => k = g ∨ k = q0 ∨ k = q1) ∧ ∀ B, B ≤ g → B ≤ q0 → B ≤ q1 → Below B w w' := by
  have H := Aside0.mk h
  have HQ0 := Aside0.mk hq0
  have HQ1 := Aside0.mk hq1
  have HNE := Aside0.mk hne
  have hg0 : q0 ≠ g := by intro e; rw [e, show w.heap[g]? = _ from h] at hq0; simp at hq0
  have hg1 : q1 ≠ g := by intro e; rw [e, show w.heap[g]? = _ from h] at hq1; simp at hq1
  have HG0 := Aside0.mk hg0
  have HG1 := Aside0.mk hg1
  have j0 := fun w => index25_0 (.int .i64 n0) (.int .i64 n1) w
  have j1 := fun w => index25_1 (.int .i64 n0) (.int .i64 n1) w
  have i0 : ¬ n0 < 1 := by unfold costOk at h0; omega
  have i1 : ¬ 1073741824 < n0 := by unfold costOk at h0; omega
  have i2 : ¬ n1 < 1 := by unfold costOk at h1; omega
  have i3 : ¬ 1073741824 < n1 := by unfold costOk at h1; omega
  clear h h0 h1 hq0 hq1 hne hg0 hg1
  go_enter Try.func9, Try.ntmps9
  go_wp2_with fail
  refine (is_yes g a b up0 c0 c1 ⟨q0, 0, none⟩ (some ⟨q1, 0, none⟩) _ (H.out.below (below_alloc (Below.refl _ _) _))).mono ?_
  rintro e w1 ⟨rfl, rfl⟩
  go_wp2_with fail
  refine wp_loop_rounds 3 ?_
  rw [rounds_succ]
  go_wp2
  rw [rounds_succ]
  go_wp2
  rw [rounds_succ]
  go_upto_region 9 with (fail)
  obtain ⟨gb, hgb⟩ : ∃ gb, w.heap.size = gb := ⟨_, rfl⟩
  rw [hgb]
  refine wp_world (fun W => Aside0 (CB W g a b up0 c0 c1 (some ⟨q0, 0, none⟩) (some ⟨q1, 0, none⟩)) ∧ Aside0 (W.heap[gb]? = some (.cells #[.int .i64 n0, .int .i64 n1] 25 (0, 0))) ∧ Aside0 (Below w.heap.size w W)) ⟨⟨H.out.below (below_alloc (Below.refl _ _) _)⟩, ⟨by subst hgb; exact blk_new w _⟩, ⟨below_alloc (Below.refl _ _) _⟩⟩ ?_
  have HG := Aside0.mk (blk_lt H.out)
  clear hgb H
  rintro w2 ⟨H, HX, HB⟩
  have k2 := blk_cell H.out 2
  have k3 := blk_cell H.out 3
  have k4 := blk_cell H.out 4
  have f2 := blk_frozen H.out 2
  have f3 := blk_frozen H.out 3
  have f4 := blk_frozen H.out 4
  have b0 := blk_cell HX.out 0
  have b1 := blk_cell HX.out 1
  simp at k2 k3 k4 b0 b1
  go_region
  go_upto_region 11 with (fail)
  have hC : CB (((w2.setCell ⟨g, 2, none⟩ (.bool false)).setCell ⟨g, 3, none⟩ (.int .i64 n0)).setCell ⟨g, 4, none⟩ (.int .i64 n1)) g a b false n0 n1 (some ⟨q0, 0, none⟩) (some ⟨q1, 0, none⟩) := by
    have h3 := blk_set (blk_set (blk_set H.out 2 (.bool false)) 3 (.int .i64 n0)) 4 (.int .i64 n1)
    simpa [CB] using h3
  have hK := Kept.setCell (S := fun k => k = g ∨ k = q0 ∨ k = q1) (Kept.setCell (Kept.setCell (Kept.of_below HB.out (fun k => k = g ∨ k = q0 ∨ k = q1)) (p := ⟨g, 2, none⟩) (.inl (.inl rfl)) (.bool false)) (p := ⟨g, 3, none⟩) (.inl (.inl rfl)) (.int .i64 n0)) (p := ⟨g, 4, none⟩) (.inl (.inl rfl)) (.int .i64 n1)
  have hB : ∀ B, B ≤ g → Below B w ((((w2.setCell ⟨g, 2, none⟩ (.bool false)).setCell ⟨g, 3, none⟩ (.int .i64 n0)).setCell ⟨g, 4, none⟩ (.int .i64 n1))).drew := fun B hB => below_drew ((((HB.out.mono (show B ≤ w.heap.size from by have := HG.out; omega)).setCell (p := ⟨g, 2, none⟩) hB _).setCell (p := ⟨g, 3, none⟩) hB _).setCell (p := ⟨g, 4, none⟩) hB _)
  have hq0 := blk_far (blk_far (blk_far (blk_below HQ0.out HB.out) (p := ⟨g, 2, none⟩) HG0.out (.bool false)) (p := ⟨g, 3, none⟩) HG0.out (.int .i64 n0)) (p := ⟨g, 4, none⟩) HG0.out (.int .i64 n1)
  have hq1 := blk_far (blk_far (blk_far (blk_below HQ1.out HB.out) (p := ⟨g, 2, none⟩) HG1.out (.bool false)) (p := ⟨g, 3, none⟩) HG1.out (.int .i64 n0)) (p := ⟨g, 4, none⟩) HG1.out (.int .i64 n1)
  refine wp_world (fun W => Aside0 (CB W g a b false n0 n1 (some ⟨q0, 0, none⟩) (some ⟨q1, 0, none⟩)) ∧ Aside0 (W.heap[q0]? = some (.cells #[v0] 63 (0, 0))) ∧ Aside0 (W.heap[q1]? = some (.cells #[v1] 63 (0, 0))) ∧ Aside0 (Kept w W (fun k => k = g ∨ k = q0 ∨ k = q1)) ∧ Aside0 (∀ B, B ≤ g → Below B w W)) ⟨⟨hC⟩, ⟨hq0⟩, ⟨hq1⟩, ⟨hK⟩, ⟨hB⟩⟩ ?_
  clear hB
  clear hC hK hq0 hq1 H HX HB k2 k3 k4 f2 f3 f4 b0 b1 HQ0 HQ1
  rintro w3 ⟨H, HQ0, HQ1, HK, HBB⟩
  have k5 := blk_cell H.out 5
  have k6 := blk_cell H.out 6
  simp at k5 k6
  have j2 := fun w => index27_0 (.pointer (some ⟨q0, 0, none⟩)) (.pointer (some ⟨q1, 0, none⟩)) w
  have j3 := fun w => index27_1 (.pointer (some ⟨q0, 0, none⟩)) (.pointer (some ⟨q1, 0, none⟩)) w
  go_wp2_with fail
  refine wp_loop_rounds 3 ?_
  rw [rounds_succ]
  go_wp2_with fail
  refine (clear_raw q0 v0 _ HQ0.out).mono ?_
  rintro e w4 ⟨rfl, rfl⟩
  go_wp2_with fail
  rw [rounds_succ]
  go_wp2_with fail
  refine (clear_raw q1 v1 _ (blk_far HQ1.out (p := ⟨q0, 0, none⟩) HNE.out.symm _)).mono ?_
  rintro e w4 ⟨rfl, rfl⟩
  go_wp2_with fail
  rw [rounds_succ]
  go_wp2
  go_ret
  refine ⟨rfl, blk_far (blk_far H.out (p := ⟨q0, 0, none⟩) HG0.out.symm _) (p := ⟨q1, 0, none⟩) HG1.out.symm _, ?_, ?_, ?_, fun B h1 h2 h3 => ((HBB.out B h1).setCell h2 _).setCell h3 _⟩
  · exact blk_far (blk_set HQ0.out 0 _) (p := ⟨q1, 0, none⟩) HNE.out _
  · exact blk_set (blk_far HQ1.out (p := ⟨q0, 0, none⟩) HNE.out.symm _) 0 _
  · exact (HK.out.setCell (p := ⟨q0, 0, none⟩) (.inl (.inr (.inl rfl))) _).setCell (p := ⟨q1, 0, none⟩) (.inl (.inr (.inr rfl))) _
end Go.Proofs.Ythimnnnfgangbaa.Cb
