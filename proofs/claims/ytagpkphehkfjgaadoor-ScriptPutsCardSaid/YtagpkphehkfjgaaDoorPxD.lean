/- Contract of the reference's Cut, for every input. -/
import Derived.Test.YtagpkphehkfjgaaDoorPxC
import Derived.Deep.RegionWith
set_option linter.unusedVariables false
set_option linter.unusedSimpArgs false
namespace Go.Proofs.YtagpkphehkfjgaaDoor.Px
open Go.RowKit Go.Proofs.YtagpkphehkfjgaaDoorW.PrintWords Go.Proofs.YtagpkphehkfjgaaDoorW.PrintLast Go.Proofs.YtagpkphehkfjgaaDoorW.PrintMore
/-- The variable p and the result's. -/
def K2 (w : World) (gp gr b : Nat) (n : Int) (W : World) : Prop := W.heap[gp]? = some (.cells #[.int .u32 b, .int .i64 n] 24 (0, 0)) ∧ W.heap[gr]? = some (.cells #[.int .u32 (0 : Nat), .int .i64 0] 24 (0, 0)) ∧ gr ≠ gp ∧ w.heap.size ≤ gr ∧ w.heap.size ≤ gp ∧ Below w.heap.size w W
theorem K2.put {w W : World} {gp gr b : Nat} {n : Int} (h : K2 w gp gr b n W) (b' : Nat) : K2 w gp gr b' n (W.setCell ⟨gp, 0, none⟩ (.int .u32 b')) :=
  ⟨blk_put h.1 0 _ rfl, blk_far h.2.1 (p := ⟨gp, 0, none⟩) h.2.2.1 _, h.2.2.1, h.2.2.2.1, h.2.2.2.2.1, h.2.2.2.2.2.setCell (p := ⟨gp, 0, none⟩) h.2.2.2.2.1 _⟩
theorem K2.drew {w W : World} {gp gr b : Nat} {n : Int} (h : K2 w gp gr b n W) : K2 w gp gr b n W.drew := ⟨h.1, h.2.1, h.2.2.1, h.2.2.2.1, h.2.2.2.2.1, below_drew h.2.2.2.2.2⟩
theorem step_val {a k : Nat} (ha : a < 4294967296) (hk : k < 32) : IntKind.u32.wrap ((cutK a (32 - k) : Nat) + IntKind.u32.wrap ((bitAt a k : Nat) * 2 ^ min (IntKind.u64.wrap (IntKind.i64.wrap (31 - (k : Int)))).toNat 32)) = ((cutK a (31 - k) : Nat) : Int) := by
  have e1 : IntKind.i64.wrap (31 - (k : Int)) = ((31 - k : Nat) : Int) := by rw [IntKind.wrap_i64]; omega
  have e2 : IntKind.u64.wrap ((31 - k : Nat) : Int) = ((31 - k : Nat) : Int) := by rw [IntKind.wrap_u64]; omega
  have e3 : min ((31 - k : Nat) : Int).toNat 32 = 31 - k := by rw [Int.toNat_natCast]; omega
  have hs := cut_step a k hk
  have hl := cutK_lt (k := 31 - k) ha
  rw [e1, e2, e3]
  have e4 : ((bitAt a k : Nat) : Int) * 2 ^ (31 - k) = ((bitAt a k * 2 ^ (31 - k) : Nat) : Int) := by simp
  rw [e4]
  generalize bitAt a k * 2 ^ (31 - k) = x at *
  rw [IntKind.wrap_u32, IntKind.wrap_u32]
  omega
set_option maxHeartbeats 1600000 in
set_option maxRecDepth 100000 in
theorem rcut_mid (a : Nat) (n : Int) (m : Nat) (w : World) (ha : a < 4294967296) (hm : m ≤ 32) (hn : n = m) : Calls Tryd.prog 16 #[.int .u32 a, .int .i64 n] w fun e w' => e = .returned (pv (cutK a (32 - m)) m) ∧ Below w.heap.size w w' := by
  subst hn
  have d0 : decide ((m : Int) < 0) = false := decide_eq_false (by omega)
  have d1 : decide (32 < (m : Int)) = false := decide_eq_false (by omega)
  have HN := Aside0.mk hm
  have HA := Aside0.mk ha
  clear ha hm
  go_enter Tryd.func16, Tryd.ntmps16
  go_upto_region 5 with (fail)
  obtain ⟨gr, hgr⟩ : ∃ gr, w.heap.size = gr := ⟨_, rfl⟩
  have HG : Aside0 (w.heap.size = gr) := ⟨hgr⟩
  rw [hgr]
  clear hgr
  go_upto_region 6 with (fail)
  rw [HG.out]
  refine wp_world (K2 w (gr + 1) gr 0 m) (by
    have := HG.out
    subst this
    refine ⟨?_, blk_alloc (blk_new w _) _, by omega, Nat.le_refl _, by omega, below_alloc (below_alloc (Below.refl _ _) _) _⟩
    have h := blk_new (w.alloc (.cells #[.int .u32 0, .int .i64 0] 24)) (.cells #[.int .u32 0, .int .i64 m] 24)
    simpa using h) ?_
  clear d0 d1 HG
  intro w1 HK
  obtain ⟨gp, hgp⟩ : ∃ gp, gr + 1 = gp := ⟨_, rfl⟩
  rw [hgp] at HK
  rw [hgp]
  clear hgp
  have HK1 := Aside0.mk HK
  clear HK
  go_wp2
  go_loopw [6] (fun v6 W => ∃ k : Nat, k ≤ m ∧ v6 = .int .i64 k ∧ Aside0 (K2 w gp gr (cutK a (32 - k)) m W)) (fun v6 _ => m - (intOf v6).toNat)
  case atStart => exact ⟨0, Nat.zero_le _, rfl, ⟨by
    have h := HK1.out
    have e : cutK a (32 - 0) = 0 := by
      unfold cutK
      rw [Nat.div_eq_of_lt (by simpa using HA.out), Nat.zero_mul]
    rw [e]; exact h⟩⟩
  case round =>
    clear HK1
    obtain ⟨k, hk, rfl, HK⟩ := hrel
    by_cases hlt : k < m
    · have hk32 : k < 32 := by have := HN.out; omega
      have d2 : decide ((k : Int) < (m : Int)) = true := decide_eq_true (by omega)
      have k0 := pc0 HK.out.1
      have f0 := blk_frozen HK.out.1 0
      go_wp2_with fail
      go_region_with ((go_at_call 33; refine (bit_calls a k hk32 _).mono ?_; rintro e w2 ⟨rfl, rfl⟩))
      all_goals
        rw [step_val HA.out hk32]
        clear k0 f0
        have HK3 := Aside0.mk (K2.put HK.out (cutK a (31 - k)))
        clear HK
        go_wp2
        go_roundw
        case rel => exact ⟨k + 1, by omega, by go_num, ⟨by rw [show 32 - (k + 1) = 31 - k by omega]; first | exact HK3.out | exact HK3.out.drew⟩⟩
        case measure => simp [intOf]; omega
    · obtain rfl : k = m := by omega
      have k0 := pc0 HK.out.1
      have k1 := pc1 HK.out.1
      have r0 := pc0 HK.out.2.1
      have r1 := pc1 HK.out.2.1
      have f0 := blk_frozen HK.out.2.1 0
      have f1 := blk_frozen HK.out.2.1 1
      have d2 : decide ((k : Int) < (k : Int)) = false := decide_eq_false (by omega)
      go_wp2
      refine bodyPost_ret (results_cell_row rfl _ _ gr 24 #[.int .u32 (cutK a (32 - k) : Nat), .int .i64 k] (0, 0) _ rfl (blk_put (blk_put HK.out.2.1 0 _ rfl) 1 _ rfl) Tryd.underlying24 rfl (by kernel_rfl)) rfl ?_
      exact ⟨rfl, (HK.out.2.2.2.2.2.setCell (p := ⟨gr, 0, none⟩) HK.out.2.2.2.1 _).setCell (p := ⟨gr, 1, none⟩) HK.out.2.2.2.1 _⟩
set_option maxHeartbeats 1600000 in
set_option maxRecDepth 100000 in
theorem rcut_low (a : Nat) (n : Int) (m : Nat) (w : World) (ha : a < 4294967296) (hm : m ≤ 32) (hn : n < 0 ∧ m = 0) : Calls Tryd.prog 16 #[.int .u32 a, .int .i64 n] w fun e w' => e = .returned (pv (cutK a (32 - m)) m) ∧ Below w.heap.size w w' := by
  obtain ⟨hn, rfl⟩ := hn
  have d0 : decide (n < 0) = true := decide_eq_true hn
  have d1 : True := trivial
  clear hn
  have HN := Aside0.mk hm
  have HA := Aside0.mk ha
  clear ha hm
  go_enter Tryd.func16, Tryd.ntmps16
  go_upto_region 5 with (fail)
  obtain ⟨gr, hgr⟩ : ∃ gr, w.heap.size = gr := ⟨_, rfl⟩
  have HG : Aside0 (w.heap.size = gr) := ⟨hgr⟩
  rw [hgr]
  clear hgr
  go_upto_region 6 with (fail)
  rw [HG.out]
  refine wp_world (K2 w (gr + 1) gr 0 0) (by
    have := HG.out
    subst this
    refine ⟨?_, blk_alloc (blk_new w _) _, by omega, Nat.le_refl _, by omega, below_alloc (below_alloc (Below.refl _ _) _) _⟩
    have h := blk_new (w.alloc (.cells #[.int .u32 0, .int .i64 0] 24)) (.cells #[.int .u32 0, .int .i64 0] 24)
    simpa using h) ?_
  clear d0 d1 HG
  intro w1 HK
  obtain ⟨gp, hgp⟩ : ∃ gp, gr + 1 = gp := ⟨_, rfl⟩
  rw [hgp] at HK
  rw [hgp]
  clear hgp
  have HK1 := Aside0.mk HK
  clear HK
  go_wp2
  go_loopw [6] (fun v6 W => ∃ k : Nat, k ≤ 0 ∧ v6 = .int .i64 k ∧ Aside0 (K2 w gp gr (cutK a (32 - k)) 0 W)) (fun v6 _ => 0 - (intOf v6).toNat)
  case atStart => exact ⟨0, Nat.zero_le _, rfl, ⟨by
    have h := HK1.out
    have e : cutK a (32 - 0) = 0 := by
      unfold cutK
      rw [Nat.div_eq_of_lt (by simpa using HA.out), Nat.zero_mul]
    rw [e]; exact h⟩⟩
  case round =>
    clear HK1
    obtain ⟨k, hk, rfl, HK⟩ := hrel
    by_cases hlt : k < 0
    · exact absurd hlt (by omega)
    · obtain rfl : k = 0 := by omega
      have k0 := pc0 HK.out.1
      have k1 := pc1 HK.out.1
      have r0 := pc0 HK.out.2.1
      have r1 := pc1 HK.out.2.1
      have f0 := blk_frozen HK.out.2.1 0
      have f1 := blk_frozen HK.out.2.1 1
      have d2 : decide ((0 : Int) < 0) = false := decide_eq_false (by omega)
      go_wp2
      refine bodyPost_ret (results_cell_row rfl _ _ gr 24 #[.int .u32 (cutK a (32 - 0) : Nat), .int .i64 0] (0, 0) _ rfl (blk_put (blk_put HK.out.2.1 0 _ rfl) 1 _ rfl) Tryd.underlying24 rfl (by kernel_rfl)) rfl ?_
      exact ⟨rfl, (HK.out.2.2.2.2.2.setCell (p := ⟨gr, 0, none⟩) HK.out.2.2.2.1 _).setCell (p := ⟨gr, 1, none⟩) HK.out.2.2.2.1 _⟩
set_option maxHeartbeats 1600000 in
set_option maxRecDepth 100000 in
theorem rcut_high (a : Nat) (n : Int) (m : Nat) (w : World) (ha : a < 4294967296) (hm : m ≤ 32) (hn : 32 < n ∧ m = 32) : Calls Tryd.prog 16 #[.int .u32 a, .int .i64 n] w fun e w' => e = .returned (pv (cutK a (32 - m)) m) ∧ Below w.heap.size w w' := by
  obtain ⟨hn, rfl⟩ := hn
  have d0 : decide (n < 0) = false := decide_eq_false (by omega)
  have d1 : decide (32 < n) = true := decide_eq_true hn
  clear hn
  have HN := Aside0.mk hm
  have HA := Aside0.mk ha
  clear ha hm
  go_enter Tryd.func16, Tryd.ntmps16
  go_upto_region 5 with (fail)
  obtain ⟨gr, hgr⟩ : ∃ gr, w.heap.size = gr := ⟨_, rfl⟩
  have HG : Aside0 (w.heap.size = gr) := ⟨hgr⟩
  rw [hgr]
  clear hgr
  go_upto_region 6 with (fail)
  rw [HG.out]
  refine wp_world (K2 w (gr + 1) gr 0 32) (by
    have := HG.out
    subst this
    refine ⟨?_, blk_alloc (blk_new w _) _, by omega, Nat.le_refl _, by omega, below_alloc (below_alloc (Below.refl _ _) _) _⟩
    have h := blk_new (w.alloc (.cells #[.int .u32 0, .int .i64 0] 24)) (.cells #[.int .u32 0, .int .i64 32] 24)
    simpa using h) ?_
  clear d0 d1 HG
  intro w1 HK
  obtain ⟨gp, hgp⟩ : ∃ gp, gr + 1 = gp := ⟨_, rfl⟩
  rw [hgp] at HK
  rw [hgp]
  clear hgp
  have HK1 := Aside0.mk HK
  clear HK
  go_wp2
  go_loopw [6] (fun v6 W => ∃ k : Nat, k ≤ 32 ∧ v6 = .int .i64 k ∧ Aside0 (K2 w gp gr (cutK a (32 - k)) 32 W)) (fun v6 _ => 32 - (intOf v6).toNat)
  case atStart => exact ⟨0, Nat.zero_le _, rfl, ⟨by
    have h := HK1.out
    have e : cutK a (32 - 0) = 0 := by
      unfold cutK
      rw [Nat.div_eq_of_lt (by simpa using HA.out), Nat.zero_mul]
    rw [e]; exact h⟩⟩
  case round =>
    clear HK1
    obtain ⟨k, hk, rfl, HK⟩ := hrel
    by_cases hlt : k < 32
    · have hk32 : k < 32 := by have := HN.out; omega
      have d2 : decide ((k : Int) < (32 : Int)) = true := decide_eq_true (by omega)
      have k0 := pc0 HK.out.1
      have f0 := blk_frozen HK.out.1 0
      go_wp2_with fail
      go_region_with ((go_at_call 33; refine (bit_calls a k hk32 _).mono ?_; rintro e w2 ⟨rfl, rfl⟩))
      all_goals
        rw [step_val HA.out hk32]
        clear k0 f0
        have HK3 := Aside0.mk (K2.put HK.out (cutK a (31 - k)))
        clear HK
        go_wp2
        go_roundw
        case rel => exact ⟨k + 1, by omega, by go_num, ⟨by rw [show 32 - (k + 1) = 31 - k by omega]; first | exact HK3.out | exact HK3.out.drew⟩⟩
        case measure => simp [intOf]; omega
    · obtain rfl : k = 32 := by omega
      have k0 := pc0 HK.out.1
      have k1 := pc1 HK.out.1
      have r0 := pc0 HK.out.2.1
      have r1 := pc1 HK.out.2.1
      have f0 := blk_frozen HK.out.2.1 0
      have f1 := blk_frozen HK.out.2.1 1
      have d2 : decide ((32 : Int) < (32 : Int)) = false := decide_eq_false (by omega)
      go_wp2
      refine bodyPost_ret (results_cell_row rfl _ _ gr 24 #[.int .u32 (cutK a (32 - 32) : Nat), .int .i64 32] (0, 0) _ rfl (blk_put (blk_put HK.out.2.1 0 _ rfl) 1 _ rfl) Tryd.underlying24 rfl (by kernel_rfl)) rfl ?_
      exact ⟨rfl, (HK.out.2.2.2.2.2.setCell (p := ⟨gr, 0, none⟩) HK.out.2.2.2.1 _).setCell (p := ⟨gr, 1, none⟩) HK.out.2.2.2.1 _⟩
theorem rcut_calls (a : Nat) (n : Int) (w : World) (ha : a < 4294967296) : Calls Tryd.prog 16 #[.int .u32 a, .int .i64 n] w fun e w' => e = .returned (pv (cutK a (32 - clampN n)) (clampN n)) ∧ Below w.heap.size w w' := by
  by_cases h0 : n < 0
  · exact rcut_low a n _ w ha (clampN_le n) ⟨h0, by unfold clampN; omega⟩
  · by_cases h1 : 32 < n
    · exact rcut_high a n _ w ha (clampN_le n) ⟨h1, by unfold clampN; omega⟩
    · exact rcut_mid a n _ w ha (clampN_le n) (by unfold clampN; omega)
end Go.Proofs.YtagpkphehkfjgaaDoor.Px
