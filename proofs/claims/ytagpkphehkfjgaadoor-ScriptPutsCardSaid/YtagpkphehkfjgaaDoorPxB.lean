/- Contracts of prefix.Covers and Cut, for every input. -/
import Derived.Test.YtagpkphehkfjgaaDoorPxA
set_option linter.unusedVariables false
set_option linter.unusedSimpArgs false
namespace Go.Proofs.YtagpkphehkfjgaaDoor.Px
open Go.RowKit Go.Proofs.YtagpkphehkfjgaaDoorW.PrintWords Go.Proofs.YtagpkphehkfjgaaDoorW.PrintLast Go.Proofs.YtagpkphehkfjgaaDoorW.PrintMore
theorem pc0 {W : World} {g b : Nat} {n : Int} (h : W.heap[g]? = some (.cells #[.int .u32 b, .int .i64 n] 24 (0, 0))) : W.cell? ⟨g, 0, none⟩ = some (.int .u32 b) := by have := blk_cell h 0; simpa using this
theorem pc1 {W : World} {g b : Nat} {n : Int} (h : W.heap[g]? = some (.cells #[.int .u32 b, .int .i64 n] 24 (0, 0))) : W.cell? ⟨g, 1, none⟩ = some (.int .i64 n) := by have := blk_cell h 1; simpa using this
set_option maxHeartbeats 1600000 in
set_option maxRecDepth 100000 in
theorem covers_calls (b : Nat) (n : Int) (c : Nat) (m : Int) (w : World) (hb : b < 4294967296) (hc : c < 4294967296) : Calls Tryd.prog 9 #[pv b n, pv c m] w fun e w' => e = .returned (.bool (decide (Cov b n c m))) ∧ Below w.heap.size w w' := by
  have HLB := Aside0.mk hb
  have HLC := Aside0.mk hc
  clear hb hc
  go_enter Tryd.func9, Tryd.ntmps9
  go_upto_region 1 with (fail)
  obtain ⟨gx, hgx⟩ : ∃ gx, w.heap.size = gx := ⟨_, rfl⟩
  rw [hgx]
  refine wp_world (fun W => Aside0 (W.heap[gx]? = some (.cells #[.int .u32 b, .int .i64 n] 24 (0, 0))) ∧ Aside0 (W.heap[gx + 1]? = some (.cells #[.int .u32 c, .int .i64 m] 24 (0, 0))) ∧ Aside0 (Below w.heap.size w W)) (by
    subst hgx
    refine ⟨⟨blk_alloc (blk_new w _) _⟩, ⟨?_⟩, ⟨below_alloc (below_alloc (Below.refl _ _) _) _⟩⟩
    have h := blk_new (w.alloc (.cells #[.int .u32 b, .int .i64 n] 24)) (.cells #[.int .u32 c, .int .i64 m] 24)
    simpa using h) ?_
  clear hgx
  rintro w1 ⟨HX, HY, HB⟩
  have y0 := pc0 HY.out
  have y1 := pc1 HY.out
  by_cases hm : May c m
  · have H0 : Aside0 (chk c m = 0) := ⟨by unfold chk; rw [if_pos hm]⟩
    have HM := Aside0.mk hm
    clear hm
    go_wp2_with fail
    refine (check_calls c m _ HLC.out).mono ?_
    rw [H0.out]
    rintro e w2 ⟨rfl, hb⟩
    have HX2 := Aside0.mk (blk_below HX.out hb)
    have HY2 := Aside0.mk (blk_below HY.out hb)
    have HB2 := Aside0.mk (below_step HB.out hb)
    clear hb HX HY HB y0 y1
    have x0 := pc0 HX2.out
    have x1 := pc1 HX2.out
    have y0 := pc0 HY2.out
    have y1 := pc1 HY2.out
    by_cases hle : n ≤ m
    · have HL := Aside0.mk hle
      have d0 : decide (n ≤ m) = true := decide_eq_true hle
      clear hle
      go_wp2_with fail
      refine (within_calls b n c _ HLB.out HLC.out).mono ?_
      rintro e w3 ⟨rfl, hb⟩
      have HB3 := Aside0.mk (below_step HB2.out hb)
      have HE : Aside0 (decide (Wit b n c) = decide (Cov b n c m)) := ⟨by
        apply decide_eq_decide.2
        exact ⟨fun h => ⟨HM.out, HL.out, h⟩, fun h => h.2.2⟩⟩
      rw [HE.out]
      clear hb
      go_wp2
      go_ret
      exact ⟨rfl, HB3.out⟩
    · have HE : Aside0 (decide (Cov b n c m) = false) := ⟨decide_eq_false (fun h => hle h.2.1)⟩
      have d0 : decide (n ≤ m) = false := decide_eq_false hle
      clear hle
      go_wp2
      go_ret
      exact ⟨by rw [HE.out]; rfl, HB2.out⟩
  · have H0 : Aside0 (chk c m = 1) := ⟨by unfold chk; rw [if_neg hm]⟩
    have HE : Aside0 (decide (Cov b n c m) = false) := ⟨decide_eq_false (fun h => hm h.1)⟩
    clear hm
    go_wp2_with fail
    refine (check_calls c m _ HLC.out).mono ?_
    rw [H0.out]
    rintro e w2 ⟨rfl, hb⟩
    have HB2 := Aside0.mk (below_step HB.out hb)
    clear hb
    go_wp2
    go_ret
    exact ⟨by rw [HE.out]; rfl, HB2.out⟩
set_option maxHeartbeats 1600000 in
set_option maxRecDepth 100000 in
theorem cut_calls (a : Nat) (n : Int) (w : World) (ha : a < 4294967296) : Calls Tryd.prog 15 #[.int .u32 a, .int .i64 n] w fun e w' => e = .returned (pv (cutK a (32 - clampN n)) (clampN n)) ∧ Below w.heap.size w w' := by
  have hn : (if 32 < (if n < 0 then 0 else n) then 32 else if n < 0 then 0 else n) = ((clampN n : Nat) : Int) := by unfold clampN; omega
  have HA : Aside0 (bits .and .u32 (a : Int) (maskK (32 - clampN n) : Nat) = (cutK a (32 - clampN n) : Nat)) := ⟨and_m ha (clampN_le n)⟩
  have HC := Aside0.mk (clampN_le n)
  obtain ⟨m, hm⟩ : ∃ m, clampN n = m := ⟨_, rfl⟩
  rw [hm] at hn HA HC
  rw [hm]
  have HN := Aside0.mk hn
  clear ha hm hn
  go_enter Tryd.func15, Tryd.ntmps15
  go_upto_region 2 with (fail)
  rw [HN.out]
  obtain ⟨gx, hgx⟩ : ∃ gx, w.heap.size = gx := ⟨_, rfl⟩
  rw [hgx]
  refine wp_world (Bx w gx 0 0) (by subst hgx; exact bx_new w 0 0) ?_
  have HGX : Aside0 (w.heap.size ≤ gx) := ⟨by omega⟩
  clear hgx
  intro w1 HX
  have HB := Aside0.mk HX.2
  have HG := Aside0.mk HX.1
  clear HX
  go_wp2_with fail
  all_goals
    refine (mask_calls m HC.out _).mono ?_
    rintro e w2 ⟨rfl, rfl⟩
    have k0 := pc0 HG.out
    have k1 := pc1 HG.out
    have f0 := blk_frozen HG.out 0
    have f1 := blk_frozen HG.out 1
    go_wp2_with fail
    rw [HA.out]
    refine bodyPost_ret (results_cell_row rfl _ _ gx 24 #[.int .u32 (cutK a (32 - m) : Nat), .int .i64 m] (0, 0) _ rfl (blk_put (blk_put HG.out 0 _ rfl) 1 _ rfl) Tryd.underlying24 rfl (by kernel_rfl)) rfl ?_
    exact ⟨rfl, (HB.out.setCell (p := ⟨gx, 0, none⟩) HGX.out _).setCell (p := ⟨gx, 1, none⟩) HGX.out _⟩
end Go.Proofs.YtagpkphehkfjgaaDoor.Px
