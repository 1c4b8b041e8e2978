/- awake of the queue's laws, and the plain facts of the reference, for every input. -/
import Derived.Test.YtdkobokdeofiiaaQuZ
set_option linter.unusedVariables false
set_option linter.unusedSimpArgs false
namespace Go.Proofs.Ytdkobokdeofiiaa.Qu
open Go.RowKit Go.Proofs.YtdkobokdeofiiaaW.PrintWords Go.Proofs.YtdkobokdeofiiaaW.PrintLast Go.Proofs.YtdkobokdeofiiaaW.PrintMore

theorem C_one (w : World) (g : Nat) (b : Int) (h : w.heap[g]? = some (.cells #[.int .u8 b] 5 (0, 0))) : Kd.C kB w (some ⟨g, 0, none⟩) 1 [b] := by
  refine ⟨rfl, by omega, fun _ => ⟨_, rfl, fun j p hp => ?_⟩⟩
  match j, hp with
  | 0, hp =>
    injection hp with hp; subst hp
    refine ⟨[.int .u8 b], rfl, rfl, fun i u hu => ?_⟩
    rw [add_plain, blk_cell h]
    match i, hu with
    | 0, hu => exact hu

set_option maxHeartbeats 800000 in
set_option maxRecDepth 100000 in
theorem awake_calls (w : World) : Calls Try.prog 47 #[] w fun e w' => e = .returned (.bool true) ∧ Below w.heap.size w w' := by
  go_enter Try.func47, Try.ntmps47
  go_wp2_with fail
  refine (new_calls w).mono ?_
  rintro e w1 ⟨g, rfl, hg, hq, hb⟩
  have H1 := Aside0.mk hq
  have HB1 := Aside0.mk hb
  clear hq hb
  go_wp2_with fail
  refine (put_calls w.heap.size g _ [] _ (some ⟨w1.heap.size, 0, none⟩) 1 [7] _ (H1.out.below (below_alloc (Below.refl _ _) _)) (by decide) (C_one _ w1.heap.size 7 (blk_new w1 _)) (by decide)).mono ?_
  rintro e w2 ⟨rfl, v2, hq, hk⟩
  have H2 := Aside0.mk hq
  have HB2 := Aside0.mk ((below_alloc HB1.out (Obj.cells #[Value.int IntKind.u8 7] 5)).trans hk.1)
  clear hq hk H1 HB1
  go_wp2_with fail
  refine (again_calls w.heap.size g _ _ _ 0 _ H2.out (by decide) (by decide) (by decide)).mono ?_
  rintro e w3 ⟨rfl, v3, hq, hk⟩
  have H3 := Aside0.mk hq
  have HB3 := Aside0.mk (HB2.out.trans hk.1)
  clear hq hk H2 HB2
  go_wp2_with fail
  refine (take_calls w.heap.size g _ _ _ 1 _ H3.out (by decide) (by decide)).mono ?_
  rintro e w4 ⟨A4, c4, rfl, _, _, v4, hq, hk⟩
  have H4 := Aside0.mk hq
  have HB4 := Aside0.mk (HB3.out.trans hk.1)
  have ht : (tx (([] : List (List Int)) ++ [[7]] ++ [tx ([] ++ [[7]]) 0]) 1).length = 1 := by decide
  rw [ht]
  clear hq hk H3 HB3 ht
  go_wp2_with fail
  refine (all_calls w.heap.size g _ _ _ _ H4.out (by decide) (by decide)).mono ?_
  rintro e w5 ⟨u, rfl, hu, hb⟩
  obtain ⟨A5, c5, rfl⟩ := Kd.N_slice hu
  have HB5 := Aside0.mk (below_step HB4.out hb)
  have ht : ((([] : List (List Int)) ++ [[7]] ++ [tx ([] ++ [[7]]) 0]).eraseIdx 1).length = 1 := by decide
  rw [ht]
  clear hu hb ht H4 HB4
  go_wp2
  go_ret
  exact ⟨rfl, HB5.out⟩
end Go.Proofs.Ytdkobokdeofiiaa.Qu
