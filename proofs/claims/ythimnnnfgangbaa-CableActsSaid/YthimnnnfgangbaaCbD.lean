/- awake of the cable's laws, and CableNobody, walked: for every input. -/
import Derived.Test.YthimnnnfgangbaaCbC
set_option linter.unusedVariables false
set_option linter.unusedSimpArgs false
namespace Go.Proofs.Ythimnnnfgangbaa.Cb
open Go.RowKit Go.Proofs.YthimnnnfgangbaaW.PrintWords Go.Proofs.YthimnnnfgangbaaW.PrintLast Go.Proofs.YthimnnnfgangbaaW.PrintMore Go.Proofs.Ythimnnnfgangbaa.Qu

theorem C_one (w : World) (g : Nat) (b : Int) (h : w.heap[g]? = some (.cells #[.int .u8 b] 5 (0, 0))) : Kd.C kB w (some ⟨g, 0, none⟩) 1 [b] := by
  refine ⟨rfl, by omega, fun _ => ⟨_, rfl, fun j p hp => ?_⟩⟩
  match j, hp with
  | 0, hp =>
    injection hp with hp; subst hp
    refine ⟨[.int .u8 b], rfl, rfl, fun i u hu => ?_⟩
    rw [add_plain, blk_cell h]
    match i, hu with
    | 0, hu => exact hu

set_option maxHeartbeats 1600000 in
set_option maxRecDepth 100000 in
theorem awake_calls (w : World) : Calls Try.prog 5 #[] w fun e w' => e = .returned (.bool true) ∧ Below w.heap.size w w' := by
  go_enter Try.func5, Try.ntmps5
  go_wp2_with fail
  refine (cnew_ok 2 5 w (by decide) (by decide) (by decide)).mono ?_
  rintro e w1 ⟨g, q0, q1, rfl, hg, hqq, hc, h0, h1, hb⟩
  have HG := Aside0.mk hg
  have HC := Aside0.mk hc
  have HQ := Aside0.mk h1
  have HB := Aside0.mk hb
  have HQQ := Aside0.mk hqq
  clear hg hqq hc h0 h1 hb
  go_wp2_with fail
  refine (send_down g 2 5 1 1 _ _ 2 (some ⟨w1.heap.size, 0, none⟩) 1 1 _ (HC.out.below (below_alloc (Below.refl _ _) _)) (.inl rfl)).mono ?_
  rintro e w2 ⟨rfl, rfl⟩
  go_wp2_with fail
  refine (set_up g 2 5 false 1 1 _ _ 3 4 _ (HC.out.below (below_alloc (Below.refl _ _) _)) (by unfold costOk; omega) (by unfold costOk; omega)).mono ?_
  rintro e w3 ⟨rfl, hc, hk, hb⟩
  have hgl := blk_lt HC.out
  have hq1 : q1 ≠ g := by
    intro e
    have h1 := HQ.out.1
    rw [e, show w1.heap[g]? = _ from HC.out] at h1
    simp at h1
  have HC3 := Aside0.mk hc
  have HQ3 : Aside0 (QL w.heap.size w3 q1 (.slice none 0 0) [] (fun _ => False)) := ⟨(HQ.out.below (below_alloc (Below.refl _ _) (Obj.cells #[Value.int IntKind.u8 7] 5))).step (hk.2 q1 (by have := blk_lt HQ.out.1; simp; omega) hq1 (by simp)) (fun _ h => h.elim)⟩
  have HB3 := Aside0.mk ((below_alloc HB.out (Obj.cells #[Value.int IntKind.u8 7] 5)).trans (hb w.heap.size HG.out))
  clear hc hk hb hgl hq1
  go_wp2_with fail
  refine (send_via (fun w' => ∃ v', QL w.heap.size w' q1 v' ([] ++ [[7]]) (fun k => False ∨ (w3.alloc (.cells #[.int .u8 7] 5)).heap.size ≤ k) ∧ Kq w.heap.size (w3.alloc (.cells #[.int .u8 7] 5)) w' q1 (.slice none 0 0) v') g 2 5 3 4 _ ⟨q1, 0, none⟩ _ 2 (some ⟨w3.heap.size, 0, none⟩) 1 1 _ (HC3.out.below (below_alloc (Below.refl _ _) _)) (.inl ⟨rfl, rfl⟩) 0 (put_calls w.heap.size q1 _ [] _ (some ⟨w3.heap.size, 0, none⟩) 1 [7] _ (HQ3.out.below (below_alloc (Below.refl _ _) _)) (by decide) (C_one _ w3.heap.size 7 (blk_new w3 _)) (by decide))).mono ?_
  rintro e w4 ⟨rfl, v4, hq, hk⟩
  have HQ4 := Aside0.mk hq
  have hne : g ≠ q1 := by
    intro e
    have h1 := HQ3.out.1
    rw [← e, show w3.heap[g]? = _ from HC3.out] at h1
    simp at h1
  have HC4 : Aside0 (CB w4 g 2 5 true 3 4 (some ⟨q0, 0, none⟩) (some ⟨q1, 0, none⟩)) := ⟨(hk.2.1.2 g (by have := blk_lt HC3.out; simp; omega) hne (by simp [Value.ownBlock])).trans (HC3.out.below (below_alloc (Below.refl _ _) (Obj.cells #[Value.int IntKind.u8 7] 5)))⟩
  have HB4 := Aside0.mk ((below_alloc HB3.out (Obj.cells #[Value.int IntKind.u8 7] 5)).trans hk.1)
  clear hq hk hne
  go_wp2_with fail
  refine (to_yes g 2 5 true 3 4 _ _ 5 _ HC4.out).mono ?_
  rintro e w5 ⟨rfl, rfl⟩
  rw [show toF 2 5 (some ⟨q0, 0, none⟩) (some ⟨q1, 0, none⟩) 5 = some ⟨q1, 0, none⟩ from rfl]
  go_wp2_with fail
  refine (all_calls w.heap.size q1 _ _ _ _ HQ4.out (by decide) (by decide)).mono ?_
  rintro e w6 ⟨u, rfl, hu, hb⟩
  obtain ⟨A5, c5, rfl⟩ := Kd.N_slice hu
  have HB6 := Aside0.mk (below_step HB4.out hb)
  have HC6 := Aside0.mk (HC4.out.below hb)
  have ht : (([] : List (List Int)) ++ [[7]]).length = 1 := by decide
  rw [ht]
  clear hu hb ht
  go_wp2_with fail
  refine (cost_yes g 2 5 true 3 4 _ _ 5 _ HC6.out).mono ?_
  rintro e w7 ⟨rfl, rfl⟩
  rw [show costF 2 5 true 3 4 5 = 4 from rfl]
  go_wp2
  go_ret
  exact ⟨rfl, HB6.out⟩

set_option maxHeartbeats 800000 in
set_option maxRecDepth 100000 in
theorem nobody_long (A : Option Addr) (c : Nat) (bs : List Int) (n : Int) (w : World) (h : 200 < bs.length) :
    Calls Try.prog 3 #[.int .i64 n, .slice A bs.length c] w fun e w' => e = .returned (.bool true) ∧ Below w.heap.size w w' := by
  have h1 : (200 : Int) < (bs.length : Int) := by omega
  clear h
  go_enter Try.func3, Try.ntmps3
  go_wp2_with fail
  refine (awake_calls _).mono ?_
  rintro e w1 ⟨rfl, hb⟩
  have HB := Aside0.mk hb
  clear hb
  go_wp2
  go_ret
  exact ⟨rfl, HB.out⟩
set_option maxHeartbeats 2000000 in
set_option maxRecDepth 100000 in
theorem nobody_short (A : Option Addr) (c n : Nat) (of_ : Int) (w : World) (h1 : n ≤ 200) :
    Calls Try.prog 3 #[.int .i64 of_, .slice A n c] w fun e w' => e = .returned (.bool true) ∧ Below w.heap.size w w' := by
  have i1 : ¬ (200 : Int) < (n : Int) := by omega
  clear h1
  go_enter Try.func3, Try.ntmps3
  go_wp2_with fail
  refine wp_loop_rounds 3 ?_
  rw [rounds_succ]
  go_wp2_with fail
  refine (ends_none _).mono ?_
  rintro e w1 ⟨rfl, rfl⟩
  go_wp2_with fail
  refine (up_none _).mono ?_
  rintro e w1 ⟨rfl, rfl⟩
  go_wp2_with fail
  refine (cost_none of_ _).mono ?_
  rintro e w1 ⟨rfl, rfl⟩
  go_wp2_with fail
  refine (set_none true 1 1 _).mono ?_
  rintro e w1 ⟨rfl, hb⟩
  have HB1 := Aside0.mk hb
  clear hb
  go_wp2_with fail
  refine (send_none of_ (.slice A n c) _).mono ?_
  rintro e w2 ⟨rfl, rfl⟩
  go_wp2_with fail
  refine (to_none of_ _).mono ?_
  rintro e w3 ⟨rfl, rfl⟩
  go_wp2_with fail
  rw [rounds_succ]
  go_wp2_with fail
  have HX : Aside0 (CB (w3.alloc (.cells #[.int .i64 0, .int .i64 0, .bool false, .int .i64 0, .int .i64 0, .pointer none, .pointer none] 29)) w3.heap.size 0 0 false 0 0 none none) := ⟨blk_new w3 _⟩
  have HB2 := Aside0.mk (below_alloc HB1.out (.cells #[.int .i64 0, .int .i64 0, .bool false, .int .i64 0, .int .i64 0, .pointer none, .pointer none] 29))
  refine (ends_bare _ 0 0 false 0 0 none _ HX.out).mono ?_
  rintro e w1 ⟨rfl, rfl⟩
  go_wp2_with fail
  refine (up_bare _ 0 0 false 0 0 none _ HX.out).mono ?_
  rintro e w1 ⟨rfl, rfl⟩
  go_wp2_with fail
  refine (cost_bare _ 0 0 false 0 0 none of_ _ HX.out).mono ?_
  rintro e w1 ⟨rfl, rfl⟩
  go_wp2_with fail
  refine (set_bare _ 0 0 false 0 0 none true 1 1 _ HX.out).mono ?_
  rintro e w1 ⟨rfl, hb⟩
  have HX1 := Aside0.mk (HX.out.below hb)
  have HB3 := Aside0.mk (below_step HB2.out hb)
  clear hb
  go_wp2_with fail
  refine (send_bare _ 0 0 false 0 0 none of_ (.slice A n c) _ HX1.out).mono ?_
  rintro e w2 ⟨rfl, rfl⟩
  go_wp2_with fail
  refine (to_bare _ 0 0 false 0 0 none of_ _ HX1.out).mono ?_
  rintro e w4 ⟨rfl, rfl⟩
  go_wp2_with fail
  rw [rounds_succ]
  go_wp2_with fail
  refine (awake_calls _).mono ?_
  rintro e w5 ⟨rfl, hb⟩
  have HB5 := Aside0.mk (below_step HB3.out hb)
  clear hb
  go_wp2
  go_ret
  exact ⟨rfl, HB5.out⟩
theorem nobody_any (A : Option Addr) (c : Nat) (bs : List Int) (of_ : Int) (w : World) :
    Calls Try.prog 3 #[.int .i64 of_, .slice A bs.length c] w fun e w' => e = .returned (.bool true) ∧ Below w.heap.size w w' := by
  by_cases h : 200 < bs.length
  · exact nobody_long A c bs of_ w h
  · exact nobody_short A c bs.length of_ w (by omega)
end Go.Proofs.Ythimnnnfgangbaa.Cb
