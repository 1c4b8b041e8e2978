/- CostAdds (any two costs together, and which of any two spots is ahead), walked: for every input. -/
import Derived.Test.YtdkobokdeofiiaaCaA
import Derived.Test.YtdkobokdeofiiaaCsPure
import Derived.BigRegion
import Derived.Deep.DeepCutAuto
set_option linter.unusedVariables false
set_option linter.unusedSimpArgs false
namespace Go.Proofs.Ytdkobokdeofiiaa.Cs
open Go.RowKit Go.Proofs.YtdkobokdeofiiaaW.PrintWords Go.Proofs.YtdkobokdeofiiaaW.PrintLast Go.Proofs.YtdkobokdeofiiaaW.PrintMore

theorem u64w (x : Int) (h0 : 0 ≤ x) (h1 : x ≤ 18446744073709551615) : IntKind.u64.wrap x = x := IntWalk.u64_in x (by omega)
theorem refadd_f (a b : Int) (ha : 0 ≤ a ∧ a ≤ 18446744073709551615) (hb : 0 ≤ b ∧ b ≤ 18446744073709551615) : waymarkref22_Add.f a b = some (cap (a + b)) := by
  unfold waymarkref22_Add.f
  rw [Int.tmod_eq_emod_of_nonneg ha.1, Int.tmod_eq_emod_of_nonneg hb.1, Int.tdiv_eq_ediv_of_nonneg ha.1, Int.tdiv_eq_ediv_of_nonneg hb.1]
  rw [u64w (a % 4294967296 + b % 4294967296) (by omega) (by omega), u64w (a / 4294967296) (by omega) (by omega), u64w (b / 4294967296) (by omega) (by omega),
    u64w (a / 4294967296 + b / 4294967296) (by omega) (by omega), Int.tdiv_eq_ediv_of_nonneg (by omega), u64w ((a % 4294967296 + b % 4294967296) / 4294967296) (by omega) (by omega),
    u64w (a / 4294967296 + b / 4294967296 + (a % 4294967296 + b % 4294967296) / 4294967296) (by omega) (by omega), Int.tmod_eq_emod_of_nonneg (by omega)]
  unfold cap
  by_cases h : a / 4294967296 + b / 4294967296 + (a % 4294967296 + b % 4294967296) / 4294967296 ≥ 4294967296
  · rw [if_pos h, if_pos (by omega)]
  · rw [if_neg h, if_neg (by omega), u64w ((a / 4294967296 + b / 4294967296 + (a % 4294967296 + b % 4294967296) / 4294967296) * 4294967296) (by omega) (by omega), u64w _ (by omega) (by omega)]
    congr 1
    omega
theorem less_eq (a b c d : Int) : ∃ r, cost_Less.f a b c d = some r ∧ waymarkref22_Less.f a b c d = some r := by
  unfold cost_Less.f waymarkref22_Less.f
  by_cases h : a = c
  · rw [if_pos h, if_neg (by omega), if_pos h]; exact ⟨_, rfl, rfl⟩
  · rw [if_neg h]
    by_cases g : a < c
    · rw [if_pos g]; exact ⟨_, rfl, by simp [g]⟩
    · rw [if_neg g, if_neg h]; exact ⟨_, rfl, by simp [g]⟩

theorem sum2 (a b s : Int) (ha : 0 ≤ a ∧ a ≤ 18446744073709551615) (hb : 0 ≤ b ∧ b ≤ 18446744073709551615) (hs : cap (a + b) = s) (W : World) :
    Calls Try.prog 16 #[.slice (some ⟨W.heap.size, 0, none⟩) 2 2] (W.alloc (.cells #[.int .u64 a, .int .u64 b] 25)) fun e w' => e = .returned (.int .u64 s) ∧ Drawn0 (W.alloc (.cells #[.int .u64 a, .int .u64 b] 25)) w' := by
  have hf : cost_Sum.f 3 [a, b] = some s := by
    have hok : Ok [a, b] := by
      intro x hx
      simp only [List.mem_cons, List.not_mem_nil, or_false] at hx
      rcases hx with rfl | rfl
      · exact ha
      · exact hb
    rw [sum_f [a, b] hok (by simp) 3 (by simp), ← hs]
    simp [S]
  have hr : ReadsInt (W.alloc (.cells #[.int .u64 a, .int .u64 b] 25)) .u64 (some ⟨W.heap.size, 0, none⟩) 2 [a, b] := by
    refine ⟨rfl, by omega, fun _ => ⟨_, rfl, fun j hj => ?_⟩⟩
    rw [add_plain]
    rw [blk_cell (blk_new W _) j]
    match j, hj with
    | 0, _ => rfl
    | 1, _ => rfl
  exact cost_Sum.calls 3 _ 2 [a, b] s _ (Kd.C_of_reads (d := (0 : Int)) (h1 := fun _ => rfl) hr) (by simp) hf

theorem keep4 {w W W' : World} {a0 a1 b0 b1 : Addr} {v0 v1 u0 u1 : Value}
    (h : (W.cell? a0 = some v0 ∧ W.cell? a1 = some v1) ∧ (W.cell? b0 = some u0 ∧ W.cell? b1 = some u1) ∧ Aside0 (Below w.heap.size w W))
    (hb : Below W.heap.size W W') : (W'.cell? a0 = some v0 ∧ W'.cell? a1 = some v1) ∧ (W'.cell? b0 = some u0 ∧ W'.cell? b1 = some u1) ∧ Aside0 (Below w.heap.size w W') := by
  obtain ⟨⟨h1, h2⟩, ⟨h4, h5⟩, h10⟩ := h
  exact ⟨⟨pw_cell_below hb h1, pw_cell_below hb h2⟩, ⟨pw_cell_below hb h4, pw_cell_below hb h5⟩, ⟨below_step h10.out hb⟩⟩

set_option maxHeartbeats 1600000 in
set_option maxRecDepth 100000 in
theorem adds_any (a b x0 y0 x1 y1 : Int) (w : World) (ha : 0 ≤ a ∧ a ≤ 18446744073709551615) (hb : 0 ≤ b ∧ b ≤ 18446744073709551615) :
    Calls Try.prog 4 #[.int .u64 a, .int .u64 b, .agg #[.int .u64 x0, .int .i64 y0, .int .u64 x1, .int .i64 y1]] w fun e w' => e = .returned (.bool true) ∧ Below w.heap.size w w' := by
  obtain ⟨s, hs⟩ : ∃ s, cap (a + b) = s := ⟨_, rfl⟩
  have HS2 := Aside0.mk (sum2 a b s ha hb hs)
  have A1 := Aside0.mk (add_f a b ha hb)
  have A2 := Aside0.mk (refadd_f a b ha hb)
  rw [hs] at A1 A2
  clear hs ha hb
  obtain ⟨r, hr1, hr2⟩ := less_eq x0 y0 x1 y1
  have R1 := Aside0.mk hr1
  have R2 := Aside0.mk hr2
  clear hr1 hr2
  go_enter Try.func4, Try.ntmps4
  go_upto_region 1 with (fail)
  go_cut [7, 8] (fun s7 s8 wx => ∃ g h : Nat, s7 = .pointer (some ⟨g, 0, none⟩) ∧ s8 = .pointer (some ⟨h, 0, none⟩) ∧ Aside0 (wx.heap[g]? = some (.cells #[.int .u64 x0, .int .i64 y0] 30 (0, 0))) ∧ Aside0 (wx.heap[h]? = some (.cells #[.int .u64 x1, .int .i64 y1] 30 (0, 0))) ∧ Aside0 (Below w.heap.size w wx))
  case first =>
    go_region
    all_goals (go_wp2_with fail; go_meet)
    · refine ⟨_, _, rfl, rfl, ⟨blk_drew (blk_alloc (by have := blk_new (w.alloc (.cells #[.int .u64 x0, .int .i64 y0, .int .u64 x1, .int .i64 y1] 31)) (.cells #[.int .u64 x0, .int .i64 y0] 30); simpa using this) _)⟩, ⟨blk_drew (by have := blk_new ((w.alloc (.cells #[.int .u64 x0, .int .i64 y0, .int .u64 x1, .int .i64 y1] 31)).alloc (.cells #[.int .u64 x0, .int .i64 y0] 30)) (.cells #[.int .u64 x1, .int .i64 y1] 30); simpa using this)⟩, ⟨below_drew (below_alloc (below_alloc (below_alloc (Below.refl _ _) _) _) _)⟩⟩
    · refine ⟨_, _, rfl, rfl, ⟨blk_drew (by have := blk_new ((w.alloc (.cells #[.int .u64 x0, .int .i64 y0, .int .u64 x1, .int .i64 y1] 31)).alloc (.cells #[.int .u64 x1, .int .i64 y1] 30)) (.cells #[.int .u64 x0, .int .i64 y0] 30); simpa using this)⟩, ⟨blk_drew (blk_alloc (by have := blk_new (w.alloc (.cells #[.int .u64 x0, .int .i64 y0, .int .u64 x1, .int .i64 y1] 31)) (.cells #[.int .u64 x1, .int .i64 y1] 30); simpa using this) _)⟩, ⟨below_drew (below_alloc (below_alloc (below_alloc (Below.refl _ _) _) _) _)⟩⟩
  case rest =>
    obtain ⟨g, h, rfl, rfl, B1, B2, HB⟩ := hcut
    have c0 := blk_cell B1.out 0
    have c1 := blk_cell B1.out 1
    have d0 := blk_cell B2.out 0
    have d1 := blk_cell B2.out 1
    simp at c0 c1 d0 d1
    go_wp2_with fail
    go_region_held3 (fun W => (W.cell? ⟨g, 0, none⟩ = some (.int .u64 x0) ∧ W.cell? ⟨g, 1, none⟩ = some (.int .i64 y0)) ∧ (W.cell? ⟨h, 0, none⟩ = some (.int .u64 x1) ∧ W.cell? ⟨h, 1, none⟩ = some (.int .i64 y1)) ∧ Aside0 (Below w.heap.size w W))
      ((first | (with_reducible assumption) | exact ⟨⟨c0, c1⟩, ⟨d0, d1⟩, ⟨below_drew HB.out⟩⟩ | (exact keep4 (by with_reducible assumption) (below_alloc (Below.refl _ _) _))))
      (first
        | (go_at_call 17; (with_reducible refine (cost_Add.calls a b s _ A1.out).mono ?_); rintro e w' ⟨rfl, hb⟩; have hS' := keep4 (by with_reducible assumption) hb.below)
        | (go_at_call 18; (with_reducible refine (waymarkref22_Add.calls a b s _ A2.out).mono ?_); rintro e w' ⟨rfl, hb⟩; have hS' := keep4 (by with_reducible assumption) hb.below)
        | (go_at_call 19; (with_reducible refine (cost_Less.calls x0 y0 x1 y1 r _ R1.out).mono ?_); rintro e w' ⟨rfl, hb⟩; have hS' := keep4 (by with_reducible assumption) hb)
        | (go_at_call 20; (with_reducible refine (waymarkref22_Less.calls x0 y0 x1 y1 r _ R2.out).mono ?_); rintro e w' ⟨rfl, hb⟩; have hS' := keep4 (by with_reducible assumption) hb)
        | (go_at_call 15; (with_reducible refine (awake_calls _).mono ?_); rintro e w' ⟨rfl, hb⟩; have hS' := keep4 (by with_reducible assumption) hb.below)
        | (go_at_call 16; (with_reducible refine (HS2.out _).mono ?_); rintro e w' ⟨rfl, hb⟩; have hS' := keep4 (by with_reducible assumption) (below_step (below_alloc (Below.refl _ _) _) hb.below)))
    go_wp2
    go_ret
    exact ⟨rfl, hS'.2.2.out⟩
end Go.Proofs.Ytdkobokdeofiiaa.Cs
