/- The contracts of the damp laws' awake and of waymarkref54.Flap, for every input. -/
import Derived.Test.YtdkobokdeofiiaaDmB
import Derived.Test.YtdkobokdeofiiaaDmF
set_option linter.unusedVariables false
set_option linter.unusedSimpArgs false
namespace Go.Proofs.Ytdkobokdeofiiaa.Dm
open Go.RowKit Go.Proofs.YtdkobokdeofiiaaW.PrintWords Go.Proofs.YtdkobokdeofiiaaW.PrintLast Go.Proofs.YtdkobokdeofiiaaW.PrintMore

set_option maxHeartbeats 800000 in
set_option maxRecDepth 100000 in
theorem awake_calls (w : World) : Calls Try.prog 25 #[] w fun e w' => e = .returned (.bool true) ∧ Below w.heap.size w w' := by
  go_enter Try.func25, Try.ntmps25
  go_wp2_with fail
  refine (damp_Flap.calls 0 false 0 0 1000 false 0 0 _ (by kernel_rfl)).mono ?_
  rintro e w1 ⟨rfl, hb1⟩
  have HB1 := Aside0.mk hb1
  have HB0 := Aside0.mk hb1
  clear hb1
  go_wp2_with fail
  refine (damp_Flap.calls 1000 false 0 0 2000 true 0 0 _ (by kernel_rfl)).mono ?_
  rintro e w2 ⟨rfl, hb2⟩
  have B1 := Aside0.mk (blk_below (blk_new w1 _) hb2)
  have HB2 := Aside0.mk hb2
  clear hb2
  have hz1 : w1.heap.size < w2.heap.size := blk_lt B1.out
  have HC1 : Aside0 (Below w.heap.size w w2) := ⟨below_step (below_alloc HB1.out _) HB2.out⟩
  clear HB1 HB2
  have c0 := blk_cell B1.out 0
  have c1 := blk_cell B1.out 1
  have c2 := blk_cell B1.out 2
  have f0 := blk_frozen B1.out 0
  have f1 := blk_frozen B1.out 1
  have f2 := blk_frozen B1.out 2
  simp at c0 c1 c2
  have hg : Aside0 (w.heap.size ≤ w1.heap.size) := ⟨HB0.out.size⟩
  go_upto_region 3 with (fail)
  refine wp_world (fun W => Aside0 (W.heap[w1.heap.size]? = some (.cells #[.int .i64 2000, .bool true, .int .i64 0] 35 (0, 0))) ∧ Aside0 (Below w.heap.size w W)) ⟨⟨?_⟩, ⟨?_⟩⟩ ?_
  · exact blk_put (blk_put (blk_put B1.out 0 _ rfl) 1 _ rfl) 2 _ rfl
  · exact ((HC1.out.setCell hg.out _).setCell hg.out _).setCell hg.out _
  clear c0 c1 c2 f0 f1 f2 B1 HC1 hz1
  clear w2
  rintro w2 ⟨B1, HC⟩
  have hz1 : w1.heap.size < w2.heap.size := blk_lt B1.out
  have c0 := blk_cell B1.out 0
  have c1 := blk_cell B1.out 1
  have c2 := blk_cell B1.out 2
  simp at c0 c1 c2
  go_wp2_with fail
  refine (damp_Time.calls 2000 true 0 20 500 false 20 0 _ (by kernel_rfl)).mono ?_
  rintro e w3 ⟨rfl, hb3⟩
  have B2 := Aside0.mk (blk_below B1.out hb3)
  have HC2 := Aside0.mk (below_step HC.out hb3)
  clear hb3 HC B1 c0 c1 c2
  have hz2 : w1.heap.size < w3.heap.size := blk_lt B2.out
  clear hz1
  clear w2
  go_upto_region 4 with (fail)
  refine wp_world (fun W => Aside0 (W.heap[w1.heap.size]? = some (.cells #[.int .i64 2000, .bool true, .int .i64 0] 35 (0, 0))) ∧ Aside0 (W.heap[w3.heap.size]? = some (.cells #[.int .i64 500, .bool false, .int .i64 20] 35 (0, 0))) ∧ Aside0 (Below w.heap.size w W)) ⟨⟨?_⟩, ⟨?_⟩, ⟨?_⟩⟩ ?_
  · exact blk_alloc B2.out _
  · exact blk_new _ _
  · exact below_alloc HC2.out _
  rintro w4 ⟨B3, B4, HC3⟩
  clear HC2 B2
  have c0 := blk_cell B3.out 0
  have c1 := blk_cell B3.out 1
  have c2 := blk_cell B3.out 2
  have d0 := blk_cell B4.out 0
  have d1 := blk_cell B4.out 1
  have d2 := blk_cell B4.out 2
  simp at c0 c1 c2 d0 d1 d2
  go_wp2_with fail
  refine (damp_Wait.calls 10 2000 true 0 20 _ (by kernel_rfl)).mono ?_
  rintro e w5 ⟨rfl, hb5⟩
  go_wp2
  go_ret
  exact ⟨rfl, below_step HC3.out hb5⟩

theorem ref_flap (k : Nat) (a0 : Int) (a1 : Bool) (a2 at_ x : Int) (b : Bool) (y z : Int) (q : Bool) (w : World) (h : waymarkref54_Time.f k a0 a1 a2 at_ = some (x, b, y))
    (hx0 : 0 ≤ x) (hx1 : x ≤ 8000) (hz : (if 8000 < x + 1000 then 8000 else x + 1000) = z) (hq : (if 2000 ≤ z then true else b) = q) :
    Calls Try.prog 27 #[.agg #[.int .i64 a0, .bool a1, .int .i64 a2], .int .i64 at_] w fun e w' => e = .returned (.agg #[.int .i64 z, .bool q, .int .i64 y]) ∧ Below w.heap.size w w' := by
  have H := Aside0.mk h
  clear h
  have HZ := Aside0.mk hz
  have HQ := Aside0.mk hq
  clear hz hq
  go_enter Try.func27, Try.ntmps27
  go_wp2_with fail
  refine (waymarkref54_Time.calls k a0 a1 a2 at_ x b y _ H.out).mono ?_
  rintro e w1 ⟨rfl, hb⟩
  have hzz : w.heap.size + 1 < w1.heap.size := by
    have := hb.size
    simp at this; omega
  have B1 := Aside0.mk (blk_below (blk_alloc (blk_new w _) _) hb)
  have B2 : Aside0 (w1.heap[w.heap.size + 1]? = some (.cells #[.int .i64 0, .bool false, .int .i64 0] 35 (0, 0))) := ⟨by have := blk_below (blk_new (w.alloc (.cells #[.int .i64 a0, .bool a1, .int .i64 a2] 35)) (.cells #[.int .i64 0, .bool false, .int .i64 0] 35)) hb; simpa using this⟩
  have HB : Aside0 (Below w.heap.size w w1) := ⟨below_then (((Below.refl _ _).alloc (Nat.le_refl _) _).alloc (by simp) _) (by simp; omega) hb⟩
  clear hb
  have c0 := blk_cell B1.out 0
  have c1 := blk_cell B1.out 1
  have c2 := blk_cell B1.out 2
  have f0 := blk_frozen B1.out 0
  have f1 := blk_frozen B1.out 1
  have f2 := blk_frozen B1.out 2
  simp at c0 c1 c2
  go_upto_region 3 with (fail)
  refine wp_world (fun W => Aside0 (W.heap[w.heap.size]? = some (.cells #[.int .i64 (x + 1000), .bool b, .int .i64 y] 35 (0, 0))) ∧
    Aside0 (W.heap[w.heap.size + 1]? = some (.cells #[.int .i64 0, .bool false, .int .i64 0] 35 (0, 0))) ∧ Aside0 (Below w.heap.size w W)) ⟨⟨?_⟩, ⟨?_⟩, ⟨?_⟩⟩ ?_
  · exact blk_put (blk_put (blk_put (blk_put B1.out 0 _ rfl) 1 _ rfl) 2 _ rfl) 0 _ rfl
  · exact blk_far (blk_far (blk_far (blk_far B2.out (by simp) _) (by simp) _) (by simp) _) (by simp) _
  · exact ((((HB.out.setCell (by simp) _).setCell (by simp) _).setCell (by simp) _).setCell (by simp) _)
  clear c0 c1 c2 f0 f1 f2 HB hzz B1 B2
  clear w1
  rintro w1 ⟨B1, B2, HB⟩
  have c0 := blk_cell B1.out 0
  have c1 := blk_cell B1.out 1
  have c2 := blk_cell B1.out 2
  have f0 := blk_frozen B1.out 0
  have f1 := blk_frozen B1.out 1
  have f2 := blk_frozen B1.out 2
  have d0 := blk_cell B2.out 0
  have d1 := blk_cell B2.out 1
  have d2 := blk_cell B2.out 2
  have g0 := blk_frozen B2.out 0
  have g1 := blk_frozen B2.out 1
  have g2 := blk_frozen B2.out 2
  simp at c0 c1 c2 d0 d1 d2
  by_cases h1 : 8000 < x + 1000
  · have hz' : z = 8000 := by rw [← HZ.out, if_pos h1]
    subst hz'
    have hq' : q = true := by rw [← HQ.out, if_pos (by omega)]
    subst hq'
    go_wp2
    refine bodyPost_ret (results_cell_row rfl _ _ (w.heap.size + 1) 35 #[.int .i64 8000, .bool true, .int .i64 y] (0, 0) _ rfl (blk_put (blk_put (blk_put (blk_far (blk_far B2.out (by simp) _) (by simp) _) 0 _ rfl) 1 _ rfl) 2 _ rfl) Try.underlying35 rfl (by kernel_rfl)) rfl ?_
    exact ⟨rfl, (((((HB.out.setCell (by simp) _).setCell (by simp) _).setCell (by simp) _).setCell (by simp) _).setCell (by simp) _)⟩
  · have hz' : x + 1000 = z := by rw [← HZ.out, if_neg h1]
    subst hz'
    have h2 : x + 1000 ≤ 8000 := by omega
    by_cases h3 : 2000 ≤ x + 1000
    · have hq' : true = q := by rw [← HQ.out, if_pos h3]
      subst hq'
      go_wp2
      refine bodyPost_ret (results_cell_row rfl _ _ (w.heap.size + 1) 35 #[.int .i64 (x + 1000), .bool true, .int .i64 y] (0, 0) _ rfl (blk_put (blk_put (blk_put (blk_far B2.out (by simp) _) 0 _ rfl) 1 _ rfl) 2 _ rfl) Try.underlying35 rfl (by kernel_rfl)) rfl ?_
      exact ⟨rfl, ((((HB.out.setCell (by simp) _).setCell (by simp) _).setCell (by simp) _).setCell (by simp) _)⟩
    · have hq' : b = q := by rw [← HQ.out, if_neg h3]
      subst hq'
      have h4 : x + 1000 < 2000 := by omega
      go_wp2
      refine bodyPost_ret (results_cell_row rfl _ _ (w.heap.size + 1) 35 #[.int .i64 (x + 1000), .bool b, .int .i64 y] (0, 0) _ rfl (blk_put (blk_put (blk_put B2.out 0 _ rfl) 1 _ rfl) 2 _ rfl) Try.underlying35 rfl (by kernel_rfl)) rfl ?_
      exact ⟨rfl, (((HB.out.setCell (by simp) _).setCell (by simp) _).setCell (by simp) _)⟩
end Go.Proofs.Ytdkobokdeofiiaa.Dm
