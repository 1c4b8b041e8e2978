/- The contract of damp.Flap, for every input. -/
import Derived.Test.YtdkobokdeofiiaaDmA
import Derived.Test.YtdkobokdeofiiaaDmQ
set_option linter.unusedVariables false
set_option linter.unusedSimpArgs false
namespace Go.Proofs.Ytdkobokdeofiiaa.Dm
open Go.RowKit Go.Proofs.YtdkobokdeofiiaaW.PrintWords Go.Proofs.YtdkobokdeofiiaaW.PrintLast Go.Proofs.YtdkobokdeofiiaaW.PrintMore
attribute [local go_sem] max2_int min2_int max_two min_two max_three min_three max_four min_four

/-- The world at this place, known by these facts alone. -/
theorem wp_world {P : Program} {C : Code} {Q : Exit → Act → World → Prop} {a : Act} {W : World} (F : World → Prop) (hF : F W) (h : ∀ W', F W' → C.wp P Q a W') : C.wp P Q a W := h W hF

set_option maxHeartbeats 800000 in
set_option maxRecDepth 100000 in
theorem flap_false (a0_0 : Int) (a0_1 : Bool) (a0_2 : Int) (a1 : Int) (x : Int) (y z : Int) (q : Bool) (w : World) (h : damp_Time.f a0_0 a0_1 a0_2 a1 = some (x, false, y, 0))
    (hx0 : 0 ≤ x) (hx1 : x ≤ 8000) (hz1 : (if 8000 < x + 1000 then 8000 else x + 1000) = z) (hq : decide (2000 ≤ z) = q) :
    Calls Try.prog 22 #[.agg #[.int .i64 a0_0, .bool a0_1, .int .i64 a0_2], .int .i64 a1] w fun e w' => e = .returned (.tuple #[.agg #[.int .i64 z, .bool q, .int .i64 y], .int .i64 0]) ∧ Below w.heap.size w w' := by
  have H := Aside0.mk h
  clear h
  go_enter Try.func22, Try.ntmps22
  go_wp2_with fail
  refine (damp_Time.calls a0_0 a0_1 a0_2 a1 x false y 0 _ H.out).mono ?_
  rintro e w1 ⟨rfl, hb⟩
  have hz : w.heap.size + 1 < w1.heap.size := by
    have := hb.size
    simp at this; omega
  have B1 := Aside0.mk (blk_below (blk_alloc (blk_new w _) _) hb)
  have B2 : Aside0 (w1.heap[w.heap.size + 1]? = some (.cells #[.int .i64 0, .bool false, .int .i64 0] 35 (0, 0))) := ⟨by have := blk_below (blk_new (w.alloc (.cells #[.int .i64 a0_0, .bool a0_1, .int .i64 a0_2] 35)) (.cells #[.int .i64 0, .bool false, .int .i64 0] 35)) hb; simpa using this⟩
  have HB : Aside0 (Below w.heap.size w w1) := ⟨below_then (((Below.refl _ _).alloc (Nat.le_refl _) _).alloc (by simp) _) (by simp; omega) hb⟩
  clear hb
  have c0 := blk_cell B1.out 0
  have c1 := blk_cell B1.out 1
  have c2 := blk_cell B1.out 2
  have d0 := blk_cell B2.out 0
  have d1 := blk_cell B2.out 1
  have d2 := blk_cell B2.out 2
  have f0 := blk_frozen B1.out 0
  have f1 := blk_frozen B1.out 1
  have f2 := blk_frozen B1.out 2
  simp at c0 c1 c2 d0 d1 d2
  go_upto_region 6 with (fail)
  refine wp_world (fun W => Aside0 (W.heap[w.heap.size]? = some (.cells #[.int .i64 z, .bool q, .int .i64 y] 35 (0, 0))) ∧
    Aside0 (W.heap[w.heap.size + 1]? = some (.cells #[.int .i64 0, .bool false, .int .i64 0] 35 (0, 0))) ∧ Aside0 (Below w.heap.size w W)) ⟨⟨?_⟩, ⟨?_⟩, ⟨?_⟩⟩ ?_
  · refine blk_put (cs := #[.int .i64 z, .bool false, .int .i64 y]) ?_ 1 _ rfl
    refine blk_put (cs := #[.int .i64 x, .bool false, .int .i64 y]) ?_ 0 _ rfl
    refine blk_put (cs := #[.int .i64 x, .bool false, .int .i64 a0_2]) ?_ 2 _ rfl
    refine blk_put (cs := #[.int .i64 x, .bool a0_1, .int .i64 a0_2]) ?_ 1 _ rfl
    exact blk_put B1.out 0 _ rfl
  · exact blk_far (blk_far (blk_far (blk_far (blk_far B2.out (by simp) _) (by simp) _) (by simp) _) (by simp) _) (by simp) _
  · exact ((((HB.out.setCell (by simp) _).setCell (by simp) _).setCell (by simp) _).setCell (by simp) _).setCell (by simp) _
  clear c0 c1 c2 d0 d1 d2 f0 f1 f2 HB hz B1 B2
  clear w1
  rintro w1 ⟨B1, B2, HB⟩
  have c0 := blk_cell B1.out 0
  have c1 := blk_cell B1.out 1
  have c2 := blk_cell B1.out 2
  have d0 := blk_cell B2.out 0
  have d1 := blk_cell B2.out 1
  have d2 := blk_cell B2.out 2
  have f0 := blk_frozen B2.out 0
  have f1 := blk_frozen B2.out 1
  have f2 := blk_frozen B2.out 2
  simp at c0 c1 c2 d0 d1 d2
  go_wp2
  refine bodyPost_ret (results_ct rfl _ _ (w.heap.size + 1) 35 #[.int .i64 z, .bool q, .int .i64 y] (0, 0) _ rfl (blk_put (blk_put (blk_put B2.out 0 _ rfl) 1 _ rfl) 2 _ rfl) Try.underlying35 rfl (by kernel_rfl)) rfl ?_
  exact ⟨rfl, ((HB.out.setCell (by simp) _).setCell (by simp) _).setCell (by simp) _⟩

set_option maxHeartbeats 800000 in
set_option maxRecDepth 100000 in
theorem flap_true (a0_0 : Int) (a0_1 : Bool) (a0_2 : Int) (a1 : Int) (x : Int) (y z : Int) (q : Bool) (w : World) (h : damp_Time.f a0_0 a0_1 a0_2 a1 = some (x, true, y, 0))
    (hx0 : 0 ≤ x) (hx1 : x ≤ 8000) (hz1 : (if 8000 < x + 1000 then 8000 else x + 1000) = z)  :
    Calls Try.prog 22 #[.agg #[.int .i64 a0_0, .bool a0_1, .int .i64 a0_2], .int .i64 a1] w fun e w' => e = .returned (.tuple #[.agg #[.int .i64 z, .bool true, .int .i64 y], .int .i64 0]) ∧ Below w.heap.size w w' := by
  have H := Aside0.mk h
  clear h
  go_enter Try.func22, Try.ntmps22
  go_wp2_with fail
  refine (damp_Time.calls a0_0 a0_1 a0_2 a1 x true y 0 _ H.out).mono ?_
  rintro e w1 ⟨rfl, hb⟩
  have hz : w.heap.size + 1 < w1.heap.size := by
    have := hb.size
    simp at this; omega
  have B1 := Aside0.mk (blk_below (blk_alloc (blk_new w _) _) hb)
  have B2 : Aside0 (w1.heap[w.heap.size + 1]? = some (.cells #[.int .i64 0, .bool false, .int .i64 0] 35 (0, 0))) := ⟨by have := blk_below (blk_new (w.alloc (.cells #[.int .i64 a0_0, .bool a0_1, .int .i64 a0_2] 35)) (.cells #[.int .i64 0, .bool false, .int .i64 0] 35)) hb; simpa using this⟩
  have HB : Aside0 (Below w.heap.size w w1) := ⟨below_then (((Below.refl _ _).alloc (Nat.le_refl _) _).alloc (by simp) _) (by simp; omega) hb⟩
  clear hb
  have c0 := blk_cell B1.out 0
  have c1 := blk_cell B1.out 1
  have c2 := blk_cell B1.out 2
  have d0 := blk_cell B2.out 0
  have d1 := blk_cell B2.out 1
  have d2 := blk_cell B2.out 2
  have f0 := blk_frozen B1.out 0
  have f1 := blk_frozen B1.out 1
  have f2 := blk_frozen B1.out 2
  simp at c0 c1 c2 d0 d1 d2
  go_upto_region 6 with (fail)
  refine wp_world (fun W => Aside0 (W.heap[w.heap.size]? = some (.cells #[.int .i64 z, .bool true, .int .i64 y] 35 (0, 0))) ∧
    Aside0 (W.heap[w.heap.size + 1]? = some (.cells #[.int .i64 0, .bool false, .int .i64 0] 35 (0, 0))) ∧ Aside0 (Below w.heap.size w W)) ⟨⟨?_⟩, ⟨?_⟩, ⟨?_⟩⟩ ?_
  · refine blk_put (cs := #[.int .i64 z, .bool true, .int .i64 y]) ?_ 1 _ rfl
    refine blk_put (cs := #[.int .i64 x, .bool true, .int .i64 y]) ?_ 0 _ rfl
    refine blk_put (cs := #[.int .i64 x, .bool true, .int .i64 a0_2]) ?_ 2 _ rfl
    refine blk_put (cs := #[.int .i64 x, .bool a0_1, .int .i64 a0_2]) ?_ 1 _ rfl
    exact blk_put B1.out 0 _ rfl
  · exact blk_far (blk_far (blk_far (blk_far (blk_far B2.out (by simp) _) (by simp) _) (by simp) _) (by simp) _) (by simp) _
  · exact ((((HB.out.setCell (by simp) _).setCell (by simp) _).setCell (by simp) _).setCell (by simp) _).setCell (by simp) _
  clear c0 c1 c2 d0 d1 d2 f0 f1 f2 HB hz B1 B2
  clear w1
  rintro w1 ⟨B1, B2, HB⟩
  have c0 := blk_cell B1.out 0
  have c1 := blk_cell B1.out 1
  have c2 := blk_cell B1.out 2
  have d0 := blk_cell B2.out 0
  have d1 := blk_cell B2.out 1
  have d2 := blk_cell B2.out 2
  have f0 := blk_frozen B2.out 0
  have f1 := blk_frozen B2.out 1
  have f2 := blk_frozen B2.out 2
  simp at c0 c1 c2 d0 d1 d2
  go_wp2
  refine bodyPost_ret (results_ct rfl _ _ (w.heap.size + 1) 35 #[.int .i64 z, .bool true, .int .i64 y] (0, 0) _ rfl (blk_put (blk_put (blk_put B2.out 0 _ rfl) 1 _ rfl) 2 _ rfl) Try.underlying35 rfl (by kernel_rfl)) rfl ?_
  exact ⟨rfl, ((HB.out.setCell (by simp) _).setCell (by simp) _).setCell (by simp) _⟩

set_option maxHeartbeats 800000 in
set_option maxRecDepth 100000 in
theorem flap_err (a0_0 : Int) (a0_1 : Bool) (a0_2 : Int) (a1 : Int) (x : Int) (b : Bool) (y e0 : Int) (w : World) (h : damp_Time.f a0_0 a0_1 a0_2 a1 = some (x, b, y, e0)) (he : (e0 != 0) = true) :
    Calls Try.prog 22 #[.agg #[.int .i64 a0_0, .bool a0_1, .int .i64 a0_2], .int .i64 a1] w fun e w' => e = .returned (.tuple #[.agg #[.int .i64 0, .bool false, .int .i64 0], .int .i64 e0]) ∧ Below w.heap.size w w' := by
  have H := Aside0.mk h
  clear h
  go_enter Try.func22, Try.ntmps22
  go_wp2_with fail
  refine (damp_Time.calls a0_0 a0_1 a0_2 a1 x b y e0 _ H.out).mono ?_
  rintro e w1 ⟨rfl, hb⟩
  have hz : w.heap.size + 1 < w1.heap.size := by
    have := hb.size
    simp at this; omega
  have B1 := Aside0.mk (blk_below (blk_alloc (blk_new w _) _) hb)
  have B2 : Aside0 (w1.heap[w.heap.size + 1]? = some (.cells #[.int .i64 0, .bool false, .int .i64 0] 35 (0, 0))) := ⟨by have := blk_below (blk_new (w.alloc (.cells #[.int .i64 a0_0, .bool a0_1, .int .i64 a0_2] 35)) (.cells #[.int .i64 0, .bool false, .int .i64 0] 35)) hb; simpa using this⟩
  have HB : Aside0 (Below w.heap.size w w1) := ⟨below_then (((Below.refl _ _).alloc (Nat.le_refl _) _).alloc (by simp) _) (by simp; omega) hb⟩
  clear hb
  have c0 := blk_cell B1.out 0
  have c1 := blk_cell B1.out 1
  have c2 := blk_cell B1.out 2
  have d0 := blk_cell B2.out 0
  have d1 := blk_cell B2.out 1
  have d2 := blk_cell B2.out 2
  have f0 := blk_frozen B1.out 0
  have f1 := blk_frozen B1.out 1
  have f2 := blk_frozen B1.out 2
  have g0 := blk_frozen B2.out 0
  have g1 := blk_frozen B2.out 1
  have g2 := blk_frozen B2.out 2
  simp at c0 c1 c2 d0 d1 d2
  go_wp2
  refine bodyPost_ret (results_ct rfl _ _ (w.heap.size + 1) 35 #[.int .i64 0, .bool false, .int .i64 0] (0, 0) _ rfl (blk_put (blk_put (blk_put (blk_far (blk_far (blk_far B2.out (by simp) _) (by simp) _) (by simp) _) 0 _ rfl) 1 _ rfl) 2 _ rfl) Try.underlying35 rfl (by kernel_rfl)) rfl ?_
  exact ⟨rfl, (((((HB.out.setCell (by simp) _).setCell (by simp) _).setCell (by simp) _).setCell (by simp) _).setCell (by simp) _).setCell (by simp) _⟩

theorem time_cases {a : Int} {b : Bool} {c t x : Int} {b' : Bool} {y e : Int} (h : damp_Time.f a b c t = some (x, b', y, e)) : (e = 0 ∧ 0 ≤ x ∧ x ≤ 8000) ∨ (e = 1 ∧ x = 0 ∧ b' = false ∧ y = 0) := by
  by_cases g : (0 ≤ a ∧ a ≤ 8000 ∧ 0 ≤ c ∧ c ≤ 1099511627776) ∧ c ≤ t ∧ t ≤ 1099511627776
  · rw [time_ok a b c t g.1.1 g.1.2.1 g.1.2.2.1 g.2.1 g.2.2] at h
    have hd := div_le' a (ex c t) g.1.1
    simp only [Option.some.injEq, Prod.mk.injEq] at h
    omega
  · rw [time_no a b c t (by omega)] at h
    simp only [Option.some.injEq, Prod.mk.injEq] at h
    obtain ⟨rfl, rfl, rfl, rfl⟩ := h
    exact .inr ⟨rfl, rfl, rfl, rfl⟩

theorem damp_Flap.calls (a0_0 : Int) (a0_1 : Bool) (a0_2 : Int) (a1 : Int) (r1 : Int) (r2 : Bool) (r3 : Int) (r4 : Int) (w : World) (h : damp_Flap.f a0_0 a0_1 a0_2 a1 = some (r1, r2, r3, r4)) :
    Calls Try.prog 22 #[.agg #[.int .i64 a0_0, .bool a0_1, .int .i64 a0_2], .int .i64 a1] w fun e w' => e = .returned (.tuple #[.agg #[.int .i64 r1, .bool r2, .int .i64 r3], .int .i64 r4]) ∧ Below w.heap.size w w' := by
  unfold damp_Flap.f at h
  obtain ⟨⟨x, b, y, e⟩, ht, h⟩ := Option.bind_eq_some_iff.mp h
  rcases time_cases ht with ⟨rfl, h0, h1⟩ | ⟨rfl, rfl, rfl, rfl⟩
  · have ew : wrap64 (x + 1000) = x + 1000 := by unfold wrap64; omega
    simp only [if_true, ew] at h
    cases b with
    | true =>
      rw [if_pos rfl] at h
      simp only [Option.some.injEq, Prod.mk.injEq] at h
      obtain ⟨rfl, rfl, rfl, rfl⟩ := h
      exact flap_true a0_0 a0_1 a0_2 a1 x y _ true w ht h0 h1 rfl
    | false =>
      rw [if_neg (by simp)] at h
      simp only [Option.some.injEq, Prod.mk.injEq] at h
      obtain ⟨rfl, rfl, rfl, rfl⟩ := h
      exact flap_false a0_0 a0_1 a0_2 a1 x y _ _ w ht h0 h1 rfl rfl
  · rw [if_neg (by decide)] at h
    simp only [Option.some.injEq, Prod.mk.injEq] at h
    obtain ⟨rfl, rfl, rfl, rfl⟩ := h
    exact flap_err a0_0 a0_1 a0_2 a1 0 false 0 1 w ht (by decide)

end Go.Proofs.Ytdkobokdeofiiaa.Dm
