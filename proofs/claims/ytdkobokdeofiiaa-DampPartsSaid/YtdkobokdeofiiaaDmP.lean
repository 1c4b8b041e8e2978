/- The theorem of time (DampParts), walked: for every input. -/
import Derived.Test.YtdkobokdeofiiaaDmK
set_option linter.unusedVariables false
set_option linter.unusedSimpArgs false
namespace Go.Proofs.Ytdkobokdeofiiaa.Dm
open Go.RowKit Go.Proofs.YtdkobokdeofiiaaW.PrintWords Go.Proofs.YtdkobokdeofiiaaW.PrintLast Go.Proofs.YtdkobokdeofiiaaW.PrintMore
attribute [local go_sem high] eqA35

theorem parts_pure (a : Int) (b : Bool) (c q y : Int) (g0 : 0 ≤ a) (g1 : a ≤ 8000) (g2 : 0 ≤ c) (g3 : c ≤ 549755813888) (hq0 : 0 ≤ q) (hq1 : q ≤ 18) (hy0 : 0 ≤ y) (hy1 : y ≤ 65535) :
    ∃ A1 D1 C1 A2 D2 C2, damp_Time.f a b c (c + 10 * q) = some (A1, D1, C1, 0) ∧ damp_Time.f A1 D1 C1 (c + 10 * q + y) = some (A2, D2, C2, 0) ∧ damp_Time.f a b c (c + 10 * q + y) = some (A2, D2, C2, 0) := by
  have hd := div_le' a (ex c (c + 10 * q)) g0
  have ha : c + (c + 10 * q - c) / 10 * 10 = c + 10 * q := by omega
  have x1 : ex c (c + 10 * q) = q.toNat := by unfold ex mn; split <;> omega
  have hdd : a / 2 ^ ex c (c + 10 * q) / 2 ^ ex (c + 10 * q) (c + 10 * q + y) = a / 2 ^ ex c (c + 10 * q + y) := by
    rw [x1, div_div']
    by_cases u : q + y / 10 ≤ 20
    · congr 2
      unfold ex mn
      split <;> split <;> omega
    · rw [div_zero' a _ g0 g1 (by unfold ex mn; split <;> omega), div_zero' a _ g0 g1 (by unfold ex mn; split <;> omega)]
  have hle : a / 2 ^ ex c (c + 10 * q + y) ≤ a / 2 ^ ex c (c + 10 * q) := div_anti a _ _ g0 (by unfold ex mn; split <;> split <;> omega)
  refine ⟨_, _, _, _, _, _, time_ok a b c _ g0 g1 g2 (by omega) (by omega), ?_, time_ok a b c _ g0 g1 g2 (by omega) (by omega)⟩
  rw [ha, time_ok (a / 2 ^ ex c (c + 10 * q)) _ (c + 10 * q) (c + 10 * q + y) hd.1 (by omega) (by omega) (by omega) (by omega), hdd]
  generalize a / 2 ^ ex c (c + 10 * q + y) = u at hle ⊢
  generalize a / 2 ^ ex c (c + 10 * q) = v at hle ⊢
  have hb : ((b && decide (v ≥ 750)) && decide (u ≥ 750)) = (b && decide (u ≥ 750)) := by
    by_cases w : u ≥ 750
    · rw [decide_eq_true w, decide_eq_true (by omega : v ≥ 750), Bool.and_true]
    · rw [decide_eq_false w, Bool.and_false, Bool.and_false]
  have hc : c + 10 * q + (c + 10 * q + y - (c + 10 * q)) / 10 * 10 = c + (c + 10 * q + y - c) / 10 * 10 := by omega
  rw [hb, hc]

set_option maxHeartbeats 800000 in
set_option maxRecDepth 100000 in
theorem parts_no (a : Int) (b : Bool) (c x y : Int) (w : World) (g : ¬ (0 ≤ a ∧ a ≤ 8000 ∧ 0 ≤ c ∧ c ≤ 1099511627776)) :
    Calls Try.prog 7 #[.agg #[.int .i64 a, .bool b, .int .i64 c], .int .u16 x, .int .u16 y] w fun e w' => e = .returned (.bool true) ∧ Below w.heap.size w w' := by
  have hm := Aside0.mk (may_no a b c g)
  clear g
  go_enter Try.func7, Try.ntmps7
  go_wp2_with fail
  refine (waymarkref54_May.calls a b c false _ hm.out).mono ?_
  rintro e w1 ⟨rfl, hb⟩
  have HB := Aside0.mk (below_step (below_alloc (Below.refl _ _) _) hb)
  clear hb
  go_wp2_with fail
  refine (awake_calls _).mono ?_
  rintro e w2 ⟨rfl, hb⟩
  have HB2 := Aside0.mk (below_step HB.out hb)
  clear hb
  go_wp2
  go_ret
  exact ⟨rfl, HB2.out⟩

set_option maxHeartbeats 800000 in
set_option maxRecDepth 100000 in
theorem parts_yes (a : Int) (b : Bool) (c x y : Int) (w : World) (g0 : 0 ≤ a) (g1 : a ≤ 8000) (g2 : 0 ≤ c) (g3 : c ≤ 1099511627776) (hx0 : 0 ≤ x) (hx1 : x ≤ 65535) (hy0 : 0 ≤ y) (hy1 : y ≤ 65535) :
    Calls Try.prog 7 #[.agg #[.int .i64 a, .bool b, .int .i64 c], .int .u16 x, .int .u16 y] w fun e w' => e = .returned (.bool true) ∧ Below w.heap.size w w' := by
  have hm := Aside0.mk (may_ok a b c g0 g1 g2 g3)
  go_enter Try.func7, Try.ntmps7
  go_wp2_with fail
  refine (waymarkref54_May.calls a b c true _ hm.out).mono ?_
  rintro e w1 ⟨rfl, hb⟩
  have B1 := Aside0.mk (blk_below (blk_new w _) hb)
  have HB := Aside0.mk (below_step (below_alloc (Below.refl _ _) _) hb)
  have hz1 : w.heap.size < w1.heap.size := blk_lt B1.out
  have c0 := blk_cell B1.out 0
  have c1 := blk_cell B1.out 1
  have c2 := blk_cell B1.out 2
  simp at c0 c1 c2
  clear hb
  by_cases h : 549755813888 < c
  · go_wp2_with fail
    refine (awake_calls _).mono ?_
    rintro e w2 ⟨rfl, hb⟩
    have HB2 := Aside0.mk (below_step HB.out hb)
    clear hb
    go_wp2
    go_ret
    exact ⟨rfl, HB2.out⟩
  · have h' : c ≤ 549755813888 := by omega
    clear h
    go_wp2_with fail
    obtain ⟨A1, D1, C1, A2, D2, C2, e1, e2, e3⟩ := parts_pure a b c (x % 19) y g0 g1 g2 h' (by omega) (by omega) hy0 hy1
    have E1 := Aside0.mk e1
    have E2 := Aside0.mk e2
    have E3 := Aside0.mk e3
    clear e1 e2 e3
    refine (damp_Time.calls _ _ _ _ A1 D1 C1 0 _ E1.out).mono ?_
    rintro e w2 ⟨rfl, hb⟩
    have HB2 := Aside0.mk (below_step HB.out hb)
    have B2 := Aside0.mk (blk_below B1.out hb)
    clear hb B1 HB c0 c1 c2 hz1
    clear hm
    clear w1
    have hz1 : w.heap.size < w2.heap.size := blk_lt B2.out
    have c0 := blk_cell B2.out 0
    have c1 := blk_cell B2.out 1
    have c2 := blk_cell B2.out 2
    simp at c0 c1 c2
    go_wp2_with fail
    refine (damp_Time.calls _ _ _ _ A2 D2 C2 0 _ E2.out).mono ?_
    rintro e w3 ⟨rfl, hb⟩
    have HB3 := Aside0.mk (below_step (below_alloc HB2.out _) hb)
    have B3 := Aside0.mk (blk_below (blk_alloc B2.out _) hb)
    clear hb B2 HB2 c0 c1 c2 hz1
    have hz1 : w.heap.size < w3.heap.size := blk_lt B3.out
    have c0 := blk_cell B3.out 0
    have c1 := blk_cell B3.out 1
    have c2 := blk_cell B3.out 2
    simp at c0 c1 c2
    go_wp2_with fail
    refine (damp_Time.calls _ _ _ _ A2 D2 C2 0 _ E3.out).mono ?_
    rintro e w4 ⟨rfl, hb⟩
    have HB4 := Aside0.mk (below_step (below_alloc HB3.out _) hb)
    have B4 := Aside0.mk (blk_below (blk_new w3 _) hb)
    clear hb B3 HB3 c0 c1 c2 hz1
    have hz1 : w3.heap.size < w4.heap.size := blk_lt B4.out
    have c0 := blk_cell B4.out 0
    have c1 := blk_cell B4.out 1
    have c2 := blk_cell B4.out 2
    simp at c0 c1 c2
    go_wp2_with fail
    refine (awake_calls _).mono ?_
    rintro e w5 ⟨rfl, hb⟩
    have HB5 := Aside0.mk (below_step (below_alloc HB4.out _) hb)
    clear hb
    go_wp2
    go_ret
    exact ⟨rfl, HB5.out⟩

theorem parts_any (a : Int) (b : Bool) (c x y : Int) (w : World) (hx0 : 0 ≤ x) (hx1 : x ≤ 65535) (hy0 : 0 ≤ y) (hy1 : y ≤ 65535) :
    Calls Try.prog 7 #[.agg #[.int .i64 a, .bool b, .int .i64 c], .int .u16 x, .int .u16 y] w fun e w' => e = .returned (.bool true) ∧ Below w.heap.size w w' := by
  by_cases g : 0 ≤ a ∧ a ≤ 8000 ∧ 0 ≤ c ∧ c ≤ 1099511627776
  · exact parts_yes a b c x y w g.1 g.2.1 g.2.2.1 g.2.2.2 hx0 hx1 hy0 hy1
  · exact parts_no a b c x y w g
end Go.Proofs.Ytdkobokdeofiiaa.Dm
