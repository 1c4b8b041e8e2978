/- Contracts of heap.First, Put, for every input. -/
import Derived.Test.YtdkobokdeofiiaaHpT
set_option linter.unusedVariables false
set_option linter.unusedSimpArgs false
namespace Go.Proofs.Ytdkobokdeofiiaa.Hp
open Go.RowKit Go.Proofs.YtdkobokdeofiiaaW.PrintWords Go.Proofs.YtdkobokdeofiiaaW.PrintLast Go.Proofs.YtdkobokdeofiiaaW.PrintMore

set_option maxHeartbeats 400000 in
set_option maxRecDepth 100000 in
theorem first_zero (p : Option Addr) (w : World) (hn : p = none ∨ ∃ B gh v, p = some ⟨gh, 0, none⟩ ∧ HL B w gh v []) :
    Calls Try.prog 35 #[.pointer p] w fun e w' => e = .returned (.tuple #[.agg #[.int .u64 0, .int .i64 0], .bool false]) ∧ Below w.heap.size w w' := by
  have h39 : ∀ W, Below w.heap.size w W → Calls Try.prog 39 #[.pointer p] W fun e w' => e = .returned (.int .i64 0) ∧ Below W.heap.size W w' := by
    intro W hb
    rcases hn with rfl | ⟨B, gh, v, rfl, h⟩
    · exact len_none W
    · exact len_calls B gh v [] W (h.below hb)
  have H39 := Aside0.mk h39
  clear h39 hn
  go_enter Try.func35, Try.ntmps35
  go_wp2_with fail
  refine (H39.out _ (below_alloc (Below.refl _ _) _)).mono ?_
  rintro e w1 ⟨rfl, hb⟩
  have B1 := Aside0.mk (blk_below (blk_new w _) hb)
  have HB := Aside0.mk (below_step (below_alloc (Below.refl _ _) _) hb)
  clear hb
  have c0 := blk_cell B1.out 0
  have c1 := blk_cell B1.out 1
  have f0 := blk_frozen B1.out 0
  have f1 := blk_frozen B1.out 1
  simp at c0 c1
  go_wp2
  have hc := blk_set (blk_set B1.out 0 (.int .u64 0)) 1 (.int .i64 0)
  have HC := Aside0.mk hc
  clear hc
  refine bodyPost_ret (results_ct rfl _ _ w.heap.size 30 #[.int .u64 0, .int .i64 0] (0, 0) _ rfl HC.out Try.underlying30 rfl (by kernel_rfl)) rfl ?_
  exact ⟨rfl, (HB.out.setCell (Nat.le_refl _) _).setCell (Nat.le_refl _) _⟩
set_option maxHeartbeats 400000 in
set_option maxRecDepth 100000 in
theorem first_one (B gh : Nat) (v : Value) (x : S30) (xs : List S30) (w : World) (h : HL B w gh v (x :: xs)) :
    Calls Try.prog 35 #[.pointer (some ⟨gh, 0, none⟩)] w fun e w' => e = .returned (.tuple #[.agg #[.int .u64 x.f0, .int .i64 x.f1], .bool true]) ∧ Below w.heap.size w w' := by
  have H := Aside0.mk h
  obtain ⟨hb0, hge, hR⟩ := h
  rcases SB.of_R hR with ⟨he, _⟩ | ⟨g, cap, rfl, hg, hS⟩
  · cases he
  obtain ⟨cur, hcb, _, _, _, hcc⟩ := hS
  obtain ⟨e0, e1⟩ := hcc 0 x rfl
  have HS := Aside0.mk hcb
  have E0 := Aside0.mk e0
  have E1 := Aside0.mk e1
  have HB0 := Aside0.mk hb0
  clear hb0 hge hR hg hcb hcc e0 e1
  go_enter Try.func35, Try.ntmps35
  go_wp2_with fail
  refine (len_calls B gh _ (x :: xs) _ (H.out.below (below_alloc (Below.refl _ _) _))).mono ?_
  rintro e w1 ⟨rfl, hb⟩
  have B1 := Aside0.mk (blk_below (blk_new w _) hb)
  have B2 := Aside0.mk (blk_below (blk_alloc HS.out _) hb)
  have B3 := Aside0.mk (blk_below (blk_alloc HB0.out _) hb)
  have HB := Aside0.mk (below_step (below_alloc (Below.refl _ _) _) hb)
  clear hb
  have hne : ((xs.length : Int) + 1 = 0) = False := by simp; omega
  have hne' : ((↑(xs.length + 1) : Int) = 0) = False := by simp; omega
  have c0 := blk_cell B1.out 0
  have c1 := blk_cell B1.out 1
  have d0 := (blk_cell B2.out 0).trans E0.out
  have d1 := (blk_cell B2.out 1).trans E1.out
  have h0 := blk_cell B3.out 0
  have f0 := blk_frozen B1.out 0
  have f1 := blk_frozen B1.out 1
  simp at c0 c1 h0
  go_wp2
  have hc := blk_set (blk_set B1.out 0 (.int .u64 x.f0)) 1 (.int .i64 x.f1)
  have HC := Aside0.mk hc
  clear hc
  refine bodyPost_ret (results_ct rfl _ _ w.heap.size 30 #[.int .u64 x.f0, .int .i64 x.f1] (0, 0) _ rfl HC.out Try.underlying30 rfl (by kernel_rfl)) rfl ?_
  exact ⟨rfl, (HB.out.setCell (Nat.le_refl _) _).setCell (Nat.le_refl _) _⟩
end Go.Proofs.Ytdkobokdeofiiaa.Hp
