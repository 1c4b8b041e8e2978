/- The theorem of waiting (DampWaits), walked: for every input. -/
import Derived.Test.YtdkobokdeofiiaaDmK
set_option linter.unusedVariables false
set_option linter.unusedSimpArgs false
namespace Go.Proofs.Ytdkobokdeofiiaa.Dm
open Go.RowKit Go.Proofs.YtdkobokdeofiiaaW.PrintWords Go.Proofs.YtdkobokdeofiiaaW.PrintLast Go.Proofs.YtdkobokdeofiiaaW.PrintMore
def waits (a : Int) : Int := if a < 750 then 0 else if a < 1500 then 10 else if a < 3000 then 20 else if a < 6000 then 30 else 40
theorem wait_loop (a : Int) (h0 : 0 ≤ a) (h1 : a ≤ 8000) (k : Nat) : damp_Wait.l0 (k + 5) 0 a = some (waits a) := by
  have step : ∀ (k : Nat) (n x : Int), 0 ≤ n → n ≤ 100 → 750 ≤ x → x ≤ 8000 → damp_Wait.l0 (k + 1) n x = damp_Wait.l0 k (n + 10) (x / 2) := by
    intro k n x g0 g1 g2 g3
    have e6 : wrap64 (Int.tdiv x 2) = x / 2 := by rw [Int.tdiv_eq_ediv_of_nonneg (by omega)]; unfold wrap64; omega
    have e7 : wrap64 (n + 10) = n + 10 := by unfold wrap64; omega
    simp only [damp_Wait.l0]
    rw [if_pos (by omega), e6, e7]
  have stop : ∀ (k : Nat) (n x : Int), x < 750 → damp_Wait.l0 (k + 1) n x = some n := by
    intro k n x g
    simp only [damp_Wait.l0]
    rw [if_neg (by omega)]
  unfold waits
  by_cases c1 : a < 750
  · rw [if_pos c1, stop (k + 4) 0 a c1]
  rw [if_neg c1, step (k + 4) 0 a (by omega) (by omega) (by omega) (by omega)]
  by_cases c2 : a < 1500
  · rw [if_pos c2, stop (k + 3) _ _ (by omega)]; rfl
  rw [if_neg c2, step (k + 3) _ _ (by omega) (by omega) (by omega) (by omega)]
  by_cases c3 : a < 3000
  · rw [if_pos c3, stop (k + 2) _ _ (by omega)]; rfl
  rw [if_neg c3, step (k + 2) _ _ (by omega) (by omega) (by omega) (by omega)]
  by_cases c4 : a < 6000
  · rw [if_pos c4, stop (k + 1) _ _ (by omega)]; rfl
  rw [if_neg c4, step (k + 1) _ _ (by omega) (by omega) (by omega) (by omega), stop k _ _ (by omega)]; rfl
theorem wait_f (a : Int) (b : Bool) (c : Int) (h : 0 ≤ a ∧ a ≤ 8000 ∧ 0 ≤ c ∧ c ≤ 1099511627776) (k : Nat) : damp_Wait.f (k + 6) a b c = some (if b = true then waits a else 0) := by
  unfold damp_Wait.f
  rw [check_ok a b c h.1 h.2.1 h.2.2.1 h.2.2.2]
  simp only [Option.bind_some, if_true, damp_Wait.j0]
  cases b
  · simp
  · simp only [Bool.not_true, if_true]
    rw [if_neg (by simp), wait_loop a h.1 h.2.1]
theorem wait_no (a : Int) (b : Bool) (c : Int) (h : ¬ (0 ≤ a ∧ a ≤ 8000 ∧ 0 ≤ c ∧ c ≤ 1099511627776)) (k : Nat) : damp_Wait.f (k + 1) a b c = some 0 := by
  unfold damp_Wait.f
  rw [check_no a b c h]
  simp [damp_Wait.j0]
theorem waits_ge (a : Int) : 0 ≤ waits a ∧ waits a ≤ 40 ∧ (waits a = 0 ↔ a < 750) := by unfold waits; (repeat' split) <;> omega
theorem waits_last (a : Int) (h1 : a ≤ 8000) (h2 : 750 ≤ a) : a / 2 ^ ((waits a - 1) / 10).toNat ≥ 750 := by
  unfold waits
  rw [if_neg (by omega)]
  by_cases c2 : a < 1500
  · rw [if_pos c2]; simp; omega
  rw [if_neg c2]
  by_cases c3 : a < 3000
  · rw [if_pos c3]; simp; omega
  rw [if_neg c3]
  by_cases c4 : a < 6000
  · rw [if_pos c4]; simp; omega
  rw [if_neg c4]; simp; omega
theorem waits_next (a : Int) (h0 : 0 ≤ a) (h1 : a ≤ 8000) (h2 : 750 ≤ a) : a / 2 ^ (waits a / 10).toNat < 750 := by
  unfold waits
  rw [if_neg (by omega)]
  by_cases c2 : a < 1500
  · rw [if_pos c2]; simp; omega
  rw [if_neg c2]
  by_cases c3 : a < 3000
  · rw [if_pos c3]; simp; omega
  rw [if_neg c3]
  by_cases c4 : a < 6000
  · rw [if_pos c4]; simp; omega
  rw [if_neg c4]; simp; omega


set_option maxHeartbeats 800000 in
set_option maxRecDepth 100000 in
/-- The early ways: no damp, or one of a time too late: its Wait is some number from 0 on. -/
theorem waits_early (a : Int) (b : Bool) (c m k n : Int) (w : World) (h : (∃ k, damp_Wait.f k a b c = some n)) (hn : 0 ≤ n) (q : Bool) (hq : waymarkref54_May.f a b c = some q) (hc : q = true → 549755813888 < c) :
    Calls Try.prog 6 #[.agg #[.int .i64 a, .bool b, .int .i64 c], .int .u8 m] w fun e w' => e = .returned (.bool true) ∧ Below w.heap.size w w' := by
  have HW := Aside0.mk h
  have HQ := Aside0.mk hq
  clear h hq
  go_enter Try.func6, Try.ntmps6
  go_wp2_with fail
  refine (waymarkref54_May.calls a b c q _ HQ.out).mono ?_
  rintro e w1 ⟨rfl, hb⟩
  have B1 := Aside0.mk (blk_below (blk_new w _) hb)
  have HB := Aside0.mk (below_step (below_alloc (Below.refl _ _) _) hb)
  clear hb
  have hz1 : w.heap.size < w1.heap.size := blk_lt B1.out
  have c0 := blk_cell B1.out 0
  have c1 := blk_cell B1.out 1
  have c2 := blk_cell B1.out 2
  simp at c0 c1 c2
  obtain ⟨k, hk⟩ := HW.out
  have HK := Aside0.mk hk
  clear hk HW
  cases q
  · clear hc
    go_wp2_with fail
    refine (damp_Wait.calls k a b c n _ HK.out).mono ?_
    rintro e w2 ⟨rfl, hb⟩
    have HB2 := Aside0.mk (below_step HB.out hb)
    clear hb
    go_wp2_with fail
    refine (awake_calls _).mono ?_
    rintro e w3 ⟨rfl, hb⟩
    have HB3 := Aside0.mk (below_step HB2.out hb)
    clear hb
    go_wp2
    go_ret
    exact ⟨rfl, HB3.out⟩
  · have hc' := hc rfl
    clear hc
    go_wp2_with fail
    refine (damp_Wait.calls k a b c n _ HK.out).mono ?_
    rintro e w2 ⟨rfl, hb⟩
    have HB2 := Aside0.mk (below_step HB.out hb)
    clear hb
    go_wp2_with fail
    refine (awake_calls _).mono ?_
    rintro e w3 ⟨rfl, hb⟩
    have HB3 := Aside0.mk (below_step HB2.out hb)
    clear hb
    go_wp2
    go_ret
    exact ⟨rfl, HB3.out⟩

set_option maxHeartbeats 800000 in
set_option maxRecDepth 100000 in
/-- It is up, or nearly. -/
theorem waits_up (a : Int) (b : Bool) (c m : Int) (w : World) (g0 : 0 ≤ a) (g1 : a ≤ 8000) (g2 : 0 ≤ c) (g3 : c ≤ 549755813888) (h : b = false ∨ a < 750) :
    Calls Try.prog 6 #[.agg #[.int .i64 a, .bool b, .int .i64 c], .int .u8 m] w fun e w' => e = .returned (.bool true) ∧ Below w.heap.size w w' := by
  have HQ := Aside0.mk (may_ok a b c g0 g1 g2 (by omega))
  have hw : damp_Wait.f (35 + 6) a b c = some 0 := by
    rw [wait_f a b c ⟨g0, g1, g2, by omega⟩ 35]
    rcases h with rfl | h
    · rfl
    · rw [(waits_ge a).2.2.2 h]; cases b <;> rfl
  have HK := Aside0.mk hw
  clear hw
  go_enter Try.func6, Try.ntmps6
  go_wp2_with fail
  refine (waymarkref54_May.calls a b c true _ HQ.out).mono ?_
  rintro e w1 ⟨rfl, hb⟩
  have B1 := Aside0.mk (blk_below (blk_new w _) hb)
  have HB := Aside0.mk (below_step (below_alloc (Below.refl _ _) _) hb)
  clear hb
  have hz1 : w.heap.size < w1.heap.size := blk_lt B1.out
  have c0 := blk_cell B1.out 0
  have c1 := blk_cell B1.out 1
  have c2 := blk_cell B1.out 2
  simp at c0 c1 c2
  go_wp2_with fail
  refine (damp_Wait.calls _ a b c 0 _ HK.out).mono ?_
  rintro e w2 ⟨rfl, hb⟩
  have B2 := Aside0.mk (blk_below B1.out hb)
  have HB2 := Aside0.mk (below_step HB.out hb)
  clear hb c0 c1 c2
  have c0 := blk_cell B2.out 0
  have c1 := blk_cell B2.out 1
  have c2 := blk_cell B2.out 2
  simp at c0 c1 c2
  cases b
  · clear h
    go_wp2_with fail
    refine (awake_calls _).mono ?_
    rintro e w3 ⟨rfl, hb⟩
    have HB3 := Aside0.mk (below_step HB2.out hb)
    clear hb
    go_wp2
    go_ret
    exact ⟨rfl, HB3.out⟩
  · have h' : a < 750 := by simpa using h
    clear h
    go_wp2_with fail
    refine (awake_calls _).mono ?_
    rintro e w3 ⟨rfl, hb⟩
    have HB3 := Aside0.mk (below_step HB2.out hb)
    clear hb
    go_wp2
    go_ret
    exact ⟨rfl, HB3.out⟩

set_option maxHeartbeats 800000 in
set_option maxRecDepth 100000 in
/-- It is down. -/
theorem waits_down (a c m n A1 C1 A2 C2 : Int) (w : World) (g0 : 0 ≤ a) (g1 : a ≤ 8000) (g2 : 0 ≤ c) (g3 : c ≤ 549755813888) (hm0 : 0 ≤ m) (hm1 : m ≤ 255) (h : 750 ≤ a) (hn0 : 0 < n) (hn1 : n ≤ 40)
    (hw : damp_Wait.f (35 + 6) a true c = some n) (e1 : damp_Time.f a true c (c + n - 1) = some (A1, true, C1, 0)) (e2 : damp_Time.f a true c (c + n + m) = some (A2, false, C2, 0)) :
    Calls Try.prog 6 #[.agg #[.int .i64 a, .bool true, .int .i64 c], .int .u8 m] w fun e w' => e = .returned (.bool true) ∧ Below w.heap.size w w' := by
  have HQ := Aside0.mk (may_ok a true c g0 g1 g2 (by omega))
  have HK := Aside0.mk hw
  have E1 := Aside0.mk e1
  have E2 := Aside0.mk e2
  clear hw e1 e2
  go_enter Try.func6, Try.ntmps6
  go_wp2_with fail
  refine (waymarkref54_May.calls a true c true _ HQ.out).mono ?_
  rintro e w1 ⟨rfl, hb⟩
  have B1 := Aside0.mk (blk_below (blk_new w _) hb)
  have HB := Aside0.mk (below_step (below_alloc (Below.refl _ _) _) hb)
  clear hb
  have hz1 : w.heap.size < w1.heap.size := blk_lt B1.out
  have c0 := blk_cell B1.out 0
  have c1 := blk_cell B1.out 1
  have c2 := blk_cell B1.out 2
  simp at c0 c1 c2
  go_wp2_with fail
  refine (damp_Wait.calls _ a true c n _ HK.out).mono ?_
  rintro e w2 ⟨rfl, hb⟩
  have B2 := Aside0.mk (blk_below B1.out hb)
  have HB2 := Aside0.mk (below_step HB.out hb)
  clear hb c0 c1 c2 hz1
  have hz2 : w.heap.size < w2.heap.size := blk_lt B2.out
  have c0 := blk_cell B2.out 0
  have c1 := blk_cell B2.out 1
  have c2 := blk_cell B2.out 2
  simp at c0 c1 c2
  go_wp2_with fail
  refine (damp_Time.calls _ _ _ _ A1 true C1 0 _ E1.out).mono ?_
  rintro e w3 ⟨rfl, hb⟩
  have HB3 := Aside0.mk (below_step HB2.out hb)
  have B3 := Aside0.mk (blk_below B2.out hb)
  clear hb B2 HB2 c0 c1 c2 hz2
  have hz3 : w.heap.size < w3.heap.size := blk_lt B3.out
  have c0 := blk_cell B3.out 0
  have c1 := blk_cell B3.out 1
  have c2 := blk_cell B3.out 2
  simp at c0 c1 c2
  go_wp2_with fail
  refine (damp_Time.calls _ _ _ _ A2 false C2 0 _ E2.out).mono ?_
  rintro e w4 ⟨rfl, hb⟩
  have HB4 := Aside0.mk (below_step (below_alloc HB3.out _) hb)
  have B4 := Aside0.mk (blk_below (blk_new w3 _) hb)
  clear hb B3 HB3 c0 c1 c2 hz3
  have hz4 : w3.heap.size < w4.heap.size := blk_lt B4.out
  have c0 := blk_cell B4.out 0
  have c1 := blk_cell B4.out 1
  have c2 := blk_cell B4.out 2
  simp at c0 c1 c2
  go_wp2_with fail
  refine (awake_calls _).mono ?_
  rintro e w5 ⟨rfl, hb⟩
  have HB5 := Aside0.mk (below_step (below_alloc HB4.out _) hb)
  clear hb
  go_wp2
  go_ret
  exact ⟨rfl, HB5.out⟩

theorem waits_any (a : Int) (b : Bool) (c m : Int) (w : World) (hm0 : 0 ≤ m) (hm1 : m ≤ 255) :
    Calls Try.prog 6 #[.agg #[.int .i64 a, .bool b, .int .i64 c], .int .u8 m] w fun e w' => e = .returned (.bool true) ∧ Below w.heap.size w w' := by
  have hw := waits_ge a
  by_cases g : 0 ≤ a ∧ a ≤ 8000 ∧ 0 ≤ c ∧ c ≤ 1099511627776
  · by_cases g2 : 549755813888 < c
    · refine waits_early a b c m 0 _ w ⟨_, wait_f a b c g 35⟩ (by cases b <;> simp; omega) true (may_ok a b c g.1 g.2.1 g.2.2.1 g.2.2.2) (fun _ => g2)
    · by_cases g3 : b = false ∨ a < 750
      · exact waits_up a b c m w g.1 g.2.1 g.2.2.1 (by omega) g3
      · have hb : b = true := by cases b <;> simp_all
        subst hb
        have ha : 750 ≤ a := by
          have : ¬ a < 750 := fun e => g3 (.inr e)
          omega
        have hne : waits a ≠ 0 := fun e => by have := hw.2.2.1 e; omega
        have hl := waits_last a g.2.1 ha
        have hn := waits_next a g.1 g.2.1 ha
        have x1 : ex c (c + waits a - 1) = ((waits a - 1) / 10).toNat := by unfold ex mn; split <;> omega
        have x2 : (waits a / 10).toNat ≤ ex c (c + waits a + m) := by unfold ex mn; split <;> omega
        have hn2 := div_anti a _ _ g.1 x2
        have e1 := time_ok a true c (c + waits a - 1) g.1 g.2.1 g.2.2.1 (by omega) (by omega)
        have e2 := time_ok a true c (c + waits a + m) g.1 g.2.1 g.2.2.1 (by omega) (by omega)
        rw [x1, decide_eq_true hl] at e1
        rw [decide_eq_false (by omega : ¬ a / 2 ^ ex c (c + waits a + m) ≥ 750)] at e2
        exact waits_down a c m (waits a) _ _ _ _ w g.1 g.2.1 g.2.2.1 (by omega) hm0 hm1 ha (by omega) (by omega) (wait_f a true c g 35) e1 e2
  · exact waits_early a b c m 0 0 w ⟨1, wait_no a b c g 0⟩ (by omega) false (may_no a b c g) (fun h => by cases h)

end Go.Proofs.Ytdkobokdeofiiaa.Dm
