/- CableActs, walked: for every input. -/
import Derived.Test.YthimnnnfgangbaaCbF
import Derived.Deep.RegionHeld3
set_option linter.unusedVariables false
set_option linter.unusedSimpArgs false
namespace Go.Proofs.Ythimnnnfgangbaa.Cb
open Go.RowKit Go.Proofs.YthimnnnfgangbaaW.PrintWords Go.Proofs.YthimnnnfgangbaaW.PrintLast Go.Proofs.YthimnnnfgangbaaW.PrintMore Go.Proofs.Ythimnnnfgangbaa.Qu

set_option maxHeartbeats 800000 in
set_option maxRecDepth 100000 in
theorem acts_long (A : Option Addr) (c : Nat) (as_ : List A46) (a b : Int) (w : World) (h : 60 < as_.length) :
    Calls Try.prog 4 #[.int .i64 a, .int .i64 b, .slice A as_.length c] w fun e w' => e = .returned (.bool true) ∧ Below w.heap.size w w' := by
  have h1 : (60 : Int) < (as_.length : Int) := by omega
  clear h
  go_enter Try.func4, Try.ntmps4
  go_wp2_with fail
  refine (awake_calls _).mono ?_
  rintro e w1 ⟨rfl, hb⟩
  have HB := Aside0.mk hb
  clear hb
  go_wp2
  go_ret
  exact ⟨rfl, HB.out⟩
set_option maxHeartbeats 1600000 in
set_option maxRecDepth 100000 in
theorem acts_bad (A : Option Addr) (c n : Nat) (a b : Int) (w : World) (h1 : n ≤ 60) (hb : ¬ (1 ≤ a ∧ a < b ∧ b ≤ 64)) :
    Calls Try.prog 4 #[.int .i64 a, .int .i64 b, .slice A n c] w fun e w' => e = .returned (.bool true) ∧ Below w.heap.size w w' := by
  have i1 : ¬ (60 : Int) < (n : Int) := by omega
  have HN := Aside0.mk hb
  clear h1
  by_cases h0 : a < 1
  · clear hb
    go_enter Try.func4, Try.ntmps4
    go_wp2_with fail
    refine (cnew_bad a b _ HN.out).mono ?_
    rintro e w1 ⟨rfl, rfl⟩
    go_wp2_with fail
    refine (awake_calls _).mono ?_
    rintro e w1 ⟨rfl, hb⟩
    have HB := Aside0.mk hb
    clear hb
    go_wp2
    go_ret
    exact ⟨rfl, HB.out⟩
  · by_cases h1 : b ≤ a
    · clear hb
      go_enter Try.func4, Try.ntmps4
      go_wp2_with fail
      refine (cnew_bad a b _ HN.out).mono ?_
      rintro e w1 ⟨rfl, rfl⟩
      go_wp2_with fail
      refine (awake_calls _).mono ?_
      rintro e w1 ⟨rfl, hb⟩
      have HB := Aside0.mk hb
      clear hb
      go_wp2
      go_ret
      exact ⟨rfl, HB.out⟩
    · have h2 : 64 < b := by omega
      clear hb
      go_enter Try.func4, Try.ntmps4
      go_wp2_with fail
      refine (cnew_bad a b _ HN.out).mono ?_
      rintro e w1 ⟨rfl, rfl⟩
      go_wp2_with fail
      refine (awake_calls _).mono ?_
      rintro e w1 ⟨rfl, hb⟩
      have HB := Aside0.mk hb
      clear hb
      go_wp2
      go_ret
      exact ⟨rfl, HB.out⟩

set_option maxHeartbeats 40000000 in
set_option maxRecDepth 100000 in
theorem acts_short (A : Option Addr) (c : Nat) (as_ : List A46) (a b : Int) (w : World) (hC : Kd.C k46 w A as_.length as_) (h1 : as_.length ≤ 60) (ha : 1 ≤ a) (hab : a < b) (hbb : b ≤ 64) :
    Calls Try.prog 4 #[.int .i64 a, .int .i64 b, .slice A as_.length c] w fun e w' => e = .returned (.bool true) ∧ Below w.heap.size w w' := by
  have HC := Aside0.mk hC
  have HL := Aside0.mk h1
  have i1 : ¬ (60 : Int) < (as_.length : Int) := by omega
  have i2 : ¬ a < 1 := by omega
  have i3 : ¬ b ≤ a := by omega
  have i4 : ¬ 64 < b := by omega
  have HA := Aside0.mk ha
  have HAB := Aside0.mk hab
  have HBB := Aside0.mk hbb
  clear hC h1 ha hab hbb
  go_enter Try.func4, Try.ntmps4
  go_wp2_with fail
  refine (cnew_ok a b w HA.out HAB.out HBB.out).mono ?_
  rintro e w1 ⟨g, q0, q1, rfl, hg, hqq, hc, h0, h1, hb⟩
  have HS : Aside0 (St w.heap.size w1 g a b false 1 1 q0 q1 (.slice none 0 0) (.slice none 0 0) (.slice none 0 0) (.slice none 0 0) [] [] [] [] (fun _ => 0)) := ⟨⟨hc, ⟨h0.1, h0.2.1, Kd.N_nil _ _ _ _ _, fun k hk => by simp at hk⟩, ⟨h1.1, h1.2.1, Kd.N_nil _ _ _ _ _, fun k hk => by simp at hk⟩, Kd.N_nil _ _ _ _ _, Kd.N_nil _ _ _ _ _, rfl, rfl, rfl, hg, by omega⟩⟩
  have HB := Aside0.mk hb
  clear hg hqq hc h0 h1 hb
  go_wp2_with fail
  refine (rnew a b _).mono ?_
  rintro e w2 ⟨rfl, hb⟩
  have HS2 := Aside0.mk (HS.out.below hb)
  have HB2 := Aside0.mk (below_step HB.out hb)
  clear hb HS HB
  go_upto_region 9 with (fail)
  obtain ⟨gw, hgw⟩ : ∃ gw, w2.heap.size = gw := ⟨_, rfl⟩
  rw [hgw]
  refine wp_world (fun W => Aside0 (Known w.heap.size W g gw a b) ∧ Aside0 (Below w.heap.size w W)) ⟨⟨⟨false, 1, 1, q0, q1, _, _, _, _, [], [], _, HS2.out.below (below_alloc (Below.refl _ _) _), by subst hgw; exact blk_new w2 _, by subst hgw; exact HB2.out.size, rfl, Small.nil, Small.nil⟩⟩, ⟨below_alloc HB2.out _⟩⟩ ?_
  clear hgw HS2 HB2
  rintro w3 ⟨HK, HB⟩
  go_wp2_with fail
  go_loopw [10] (fun v10 W => ∃ (k : Nat), v10 = .int .i64 k ∧ Aside0 (k ≤ as_.length) ∧ Aside0 (Known w.heap.size W g gw a b) ∧ Aside0 (Below w.heap.size w W)) (fun v10 _ => as_.length - (intOf v10).toNat)
  case atStart => exact ⟨0, rfl, ⟨Nat.zero_le _⟩, HK, HB⟩
  case round =>
    clear HK HB
    obtain ⟨k, rfl, HK, HN, HB⟩ := hrel
    by_cases hlt : k < as_.length
    · obtain ⟨ad, x, A0, c0, rfl, hx, hlc, hCb, b0, b1, b2, b3, b4, b5, b6⟩ := act_at HC.out hlt rfl
      clear hx
      obtain ⟨xd, xo, xn, xb, xu, xk0, xk1⟩ := x
      have a0 := pw_cell_below HB.out b0
      have a1 := pw_cell_below HB.out b1
      have a2 := pw_cell_below HB.out b2
      have a3 := pw_cell_below HB.out b3
      have a4 := pw_cell_below HB.out b4
      have a5 := pw_cell_below HB.out b5
      have a6 := pw_cell_below HB.out b6
      have HCB := Aside0.mk hCb
      have HLC := Aside0.mk hlc
      clear b0 b1 b2 b3 b4 b5 b6 hCb hlc
      by_cases hbl : 200 < xb.length
      · have hbl' : (200 : Int) < (xb.length : Int) := by omega
        go_wp2_with fail
        refine (awake_calls _).mono ?_
        rintro e w6 ⟨rfl, hb⟩
        have HB6 := Aside0.mk (below_step (below_alloc HB.out _) hb)
        clear hb
        go_wp2
        go_ret
        exact ⟨rfl, HB6.out⟩
      · have hbl' : ¬ (200 : Int) < (xb.length : Int) := by omega
        go_upto_region 15 with (fail)
        obtain ⟨gx, hgx⟩ : ∃ gx, wr.heap.size = gx := ⟨_, rfl⟩
        rw [hgx]
        refine wp_world (fun W => Aside0 (W.heap[gx]? = some (.cells #[.int .i64 xd, .int .i64 xo, .int .i64 xn, .slice A0 xb.length c0, .bool xu, .int .i64 xk0, .int .i64 xk1] 46 (0, 0))) ∧ Aside0 (Known w.heap.size W g gw a b) ∧ Aside0 (Below w.heap.size w W)) ⟨⟨by subst hgx; exact blk_new wr _⟩, ⟨HN.out.below (below_alloc (Below.refl _ _) _)⟩, ⟨below_alloc HB.out _⟩⟩ ?_
        have HGX : Aside0 (w.heap.size ≤ gx) := ⟨by subst hgx; exact HB.out.size⟩
        clear hgx HN HB a0 a1 a2 a3 a4 a5 a6
        rintro w6 ⟨HX, HN, HB⟩
        have g0 := blk_cell HX.out 0
        simp at g0
        go_upto_block 2 with (fail)
        go_cut [6] (fun s6 wx => Aside0 (wx.heap[gx]? = some (.cells #[.int .i64 xd, .int .i64 xo, .int .i64 xn, .slice A0 xb.length c0, .bool xu, .int .i64 xk0, .int .i64 xk1] 46 (0, 0))) ∧ Aside0 (Known w.heap.size wx g gw a b) ∧ Aside0 (Below w.heap.size w wx))
        case first =>
          by_cases d0 : xd = 0
          · subst d0
            obtain ⟨up, m0, m1, q0, q1, v0, v1, lA, lB, xA, xB, col, hi⟩ := HN.out
            obtain ⟨AA, cA, rfl⟩ := Kd.N_slice hi.s.nA
            obtain ⟨AB, cB, rfl⟩ := Kd.N_slice hi.s.nB
            have HI := Aside0.mk hi
            clear hi HN
            by_cases h0 : xo = a
            · have h0 := h0.symm
              subst h0
              have hsd : Aside0 (sideF a b a = 0) := ⟨by unfold sideF; rw [if_pos rfl]⟩
              cases up
              · as_aux_lemma =>
                  have k1 := blk_cell HX.out 1
                  have k3 := blk_cell HX.out 3
                  simp at k1 k3
                  go_wp2_with (first | ((with_reducible refine gate_dst (N := 80) rfl ?_); refine wpList_load_row rfl 43 (.tmp 9) rfl gw rfl 43 (wc a b false m0 m1 (.slice AA xA.length cA) (.slice AB xB.length cB)) (0, 0) _ HI.out.w Try.underlying43 rfl (info43_size _ rfl) ?_))
                  refine (rsend_down_a a b m0 m1 AA AB xA.length xB.length cA cB a A0 xb.length c0 _ rfl).mono ?_
                  rintro e w7 ⟨rfl, hb⟩
                  have HB7 := Aside0.mk hb
                  clear hb

                  go_upto_region 18 with (fail)
                  obtain ⟨gy, hgy⟩ : ∃ gy, w7.heap.size = gy := ⟨_, rfl⟩
                  rw [hgy]
                  refine wp_world (fun W => Aside0 (W.heap[gx]? = some (.cells #[.int .i64 0, .int .i64 a, .int .i64 xn, .slice A0 xb.length c0, .bool xu, .int .i64 xk0, .int .i64 xk1] 46 (0, 0))) ∧ Aside0 (W.heap[gy]? = some (.cells (wc a b false m0 m1 (.slice AA xA.length cA) (.slice AB xB.length cB)) 43 (0, 0))) ∧ Aside0 (St w.heap.size W g a b false m0 m1 q0 q1 v0 v1 (.slice AA xA.length cA) (.slice AB xB.length cB) xA xB xA xB col) ∧ Aside0 (W.heap[gw]? = some (.cells (wc a b false m0 m1 (.slice AA xA.length cA) (.slice AB xB.length cB)) 43 (0, 0))) ∧ Aside0 (Below w.heap.size w W)) ⟨⟨blk_alloc (blk_below HX.out HB7.out) _⟩, ⟨by subst hgy; exact blk_new w7 _⟩, ⟨(HI.out.s.below HB7.out).below (below_alloc (Below.refl _ _) _)⟩, ⟨blk_alloc (blk_below HI.out.w HB7.out) _⟩, ⟨below_alloc (below_step HB.out HB7.out) _⟩⟩ ?_
                  have HGW := Aside0.mk (blk_lt HI.out.w)
                  have HBW := Aside0.mk HI.out.bw
                  have HCW := Aside0.mk HI.out.cw
                  have HMA := Aside0.mk HI.out.mA
                  have HMB := Aside0.mk HI.out.mB
                  have HW67 := Aside0.mk HB7.out.size

                  clear hgy HX HB HB7 HI g0 k1 k3
                  rintro w8 ⟨HX, HY, HS, HW, HB⟩
                  have k1 := blk_cell HX.out 1
                  have k3 := blk_cell HX.out 3
                  simp at k1 k3
                  go_wp2_with fail
                  refine (send_down g a b m0 m1 ⟨q0, 0, none⟩ (some ⟨q1, 0, none⟩) a A0 xb.length c0 _ HS.out.cb (.inl hsd.out)).mono ?_
                  rintro e w9 ⟨rfl, rfl⟩

                  have HX9 := HX
                  have HY9 := HY
                  have HS9 := HS
                  have HW9 := HW
                  have HB9 := HB
                  clear HX HY HS HW HB

                  have hxw : gx ≠ gw := by
                    intro e
                    have h1 := HX9.out
                    rw [e, HW9.out] at h1
                    simp at h1
                  have HF : Aside0 ((fun wx : World => Aside0 (wx.heap[gx]? = some (.cells #[.int .i64 0, .int .i64 a, .int .i64 xn, .slice A0 xb.length c0, .bool xu, .int .i64 xk0, .int .i64 xk1] 46 (0, 0))) ∧ Aside0 (Known w.heap.size wx g gw a b) ∧ Aside0 (Below w.heap.size w wx)) (w9.setRow gw (wc a b false m0 m1 (.slice AA xA.length cA) (.slice AB xB.length cB)))) := ⟨⟨(setRow_other w9 gw gx _ hxw).trans HX9.out⟩, ⟨false, m0, m1, q0, q1, _, _, _, _, xA, xB, _, HS9.out.setRow HW9.out (by decide) (by decide) (by decide) HCW.out HBW.out, setRow_heap w9 gw _ _ 43 _ HW9.out, HBW.out, HCW.out, HMA.out, HMB.out⟩, ⟨below_row HB9.out HBW.out _⟩⟩
                  clear hxw HX9 HS9 HB9
                  go_wp2_with (first | ((with_reducible refine gate_dst (N := 96) rfl ?_); refine wpList_load_row rfl 43 (.tmp 12) rfl gy rfl 43 (wc a b false m0 m1 (.slice AA xA.length cA) (.slice AB xB.length cB)) (0, 0) _ HY9.out Try.underlying43 rfl (info43_size _ rfl) ?_) | ((with_reducible refine gate_store (t := 43) (p := 9) (v := .tmp 96) rfl ?_); refine wpList_store_row rfl 43 (.tmp 9) (.tmp 96) rfl gw (wc a b false m0 m1 (.slice AA xA.length cA) (.slice AB xB.length cB)) rfl rfl 43 _ HW9.out (info43_size _ rfl) rfl (wc_one _ _ _ _ _ _ _ _ _ _ _) ?_))
                  go_meet
                  exact HF.out
              · as_aux_lemma =>
                  by_cases hf : 32 ≤ xB.length
                  · have hfl := Aside0.mk hf
                    clear hf
                    have k1 := blk_cell HX.out 1
                    have k3 := blk_cell HX.out 3
                    simp at k1 k3
                    go_wp2_with (first | ((with_reducible refine gate_dst (N := 80) rfl ?_); refine wpList_load_row rfl 43 (.tmp 9) rfl gw rfl 43 (wc a b true m0 m1 (.slice AA xA.length cA) (.slice AB xB.length cB)) (0, 0) _ HI.out.w Try.underlying43 rfl (info43_size _ rfl) ?_))
                    refine (rsend_full_a a b m0 m1 AA AB xA.length xB.length cA cB a A0 xb.length c0 _ rfl hfl.out).mono ?_
                    rintro e w7 ⟨rfl, hb⟩
                    have HB7 := Aside0.mk hb
                    clear hb

                    go_upto_region 18 with (fail)
                    obtain ⟨gy, hgy⟩ : ∃ gy, w7.heap.size = gy := ⟨_, rfl⟩
                    rw [hgy]
                    refine wp_world (fun W => Aside0 (W.heap[gx]? = some (.cells #[.int .i64 0, .int .i64 a, .int .i64 xn, .slice A0 xb.length c0, .bool xu, .int .i64 xk0, .int .i64 xk1] 46 (0, 0))) ∧ Aside0 (W.heap[gy]? = some (.cells (wc a b true m0 m1 (.slice AA xA.length cA) (.slice AB xB.length cB)) 43 (0, 0))) ∧ Aside0 (St w.heap.size W g a b true m0 m1 q0 q1 v0 v1 (.slice AA xA.length cA) (.slice AB xB.length cB) xA xB xA xB col) ∧ Aside0 (W.heap[gw]? = some (.cells (wc a b true m0 m1 (.slice AA xA.length cA) (.slice AB xB.length cB)) 43 (0, 0))) ∧ Aside0 (Below w.heap.size w W)) ⟨⟨blk_alloc (blk_below HX.out HB7.out) _⟩, ⟨by subst hgy; exact blk_new w7 _⟩, ⟨(HI.out.s.below HB7.out).below (below_alloc (Below.refl _ _) _)⟩, ⟨blk_alloc (blk_below HI.out.w HB7.out) _⟩, ⟨below_alloc (below_step HB.out HB7.out) _⟩⟩ ?_
                    have HGW := Aside0.mk (blk_lt HI.out.w)
                    have HBW := Aside0.mk HI.out.bw
                    have HCW := Aside0.mk HI.out.cw
                    have HMA := Aside0.mk HI.out.mA
                    have HMB := Aside0.mk HI.out.mB
                    have HW67 := Aside0.mk HB7.out.size

                    clear hgy HX HB HB7 HI g0 k1 k3
                    rintro w8 ⟨HX, HY, HS, HW, HB⟩
                    have k1 := blk_cell HX.out 1
                    have k3 := blk_cell HX.out 3
                    simp at k1 k3
                    go_wp2_with fail
                    refine (send_via (fun w' => w' = w8) g a b m0 m1 ⟨q0, 0, none⟩ ⟨q1, 0, none⟩ (some ⟨q1, 0, none⟩) a A0 xb.length c0 _ HS.out.cb (.inl ⟨hsd.out, rfl⟩) 4 (put_full w.heap.size q1 v1 xB _ A0 xb.length c0 _ HS.out.h1 hfl.out)).mono ?_
                    rintro e w9 ⟨rfl, rfl⟩

                    have HX9 := HX
                    have HY9 := HY
                    have HS9 := HS
                    have HW9 := HW
                    have HB9 := HB
                    clear HX HY HS HW HB

                    have hxw : gx ≠ gw := by
                      intro e
                      have h1 := HX9.out
                      rw [e, HW9.out] at h1
                      simp at h1
                    have HF : Aside0 ((fun wx : World => Aside0 (wx.heap[gx]? = some (.cells #[.int .i64 0, .int .i64 a, .int .i64 xn, .slice A0 xb.length c0, .bool xu, .int .i64 xk0, .int .i64 xk1] 46 (0, 0))) ∧ Aside0 (Known w.heap.size wx g gw a b) ∧ Aside0 (Below w.heap.size w wx)) (w9.setRow gw (wc a b true m0 m1 (.slice AA xA.length cA) (.slice AB xB.length cB)))) := ⟨⟨(setRow_other w9 gw gx _ hxw).trans HX9.out⟩, ⟨true, m0, m1, q0, q1, _, _, _, _, xA, xB, _, HS9.out.setRow HW9.out (by decide) (by decide) (by decide) HCW.out HBW.out, setRow_heap w9 gw _ _ 43 _ HW9.out, HBW.out, HCW.out, HMA.out, HMB.out⟩, ⟨below_row HB9.out HBW.out _⟩⟩
                    clear hxw HX9 HS9 HB9
                    go_wp2_with (first | ((with_reducible refine gate_dst (N := 96) rfl ?_); refine wpList_load_row rfl 43 (.tmp 12) rfl gy rfl 43 (wc a b true m0 m1 (.slice AA xA.length cA) (.slice AB xB.length cB)) (0, 0) _ HY9.out Try.underlying43 rfl (info43_size _ rfl) ?_) | ((with_reducible refine gate_store (t := 43) (p := 9) (v := .tmp 96) rfl ?_); refine wpList_store_row rfl 43 (.tmp 9) (.tmp 96) rfl gw (wc a b true m0 m1 (.slice AA xA.length cA) (.slice AB xB.length cB)) rfl rfl 43 _ HW9.out (info43_size _ rfl) rfl (wc_one _ _ _ _ _ _ _ _ _ _ _) ?_))
                    go_meet
                    exact HF.out
                  · have hfl := Aside0.mk hf
                    clear hf
                    have k1 := blk_cell HX.out 1
                    have k3 := blk_cell HX.out 3
                    simp at k1 k3
                    go_wp2_with (first | ((with_reducible refine gate_dst (N := 80) rfl ?_); refine wpList_load_row rfl 43 (.tmp 9) rfl gw rfl 43 (wc a b true m0 m1 (.slice AA xA.length cA) (.slice AB xB.length cB)) (0, 0) _ HI.out.w Try.underlying43 rfl (info43_size _ rfl) ?_))
                    refine (rsend_ok_a a b m0 m1 AA AB cA cB xA.length a A0 c0 xB xb _ (fun k => k < w.heap.size) _ rfl (by have := hfl.out; omega) (Kd.N_V HI.out.s.nB) (Kd.V_mk HLC.out (Kd.F_below (Kd.C_F (Kd.heap_int .u8) HCB.out) HB.out))).mono ?_
                    rintro e w7 ⟨v7, rfl, hn, hb⟩
                    obtain ⟨A7, c7, rfl⟩ := Kd.N_slice hn
                    obtain ⟨n7, hn7⟩ : ∃ n7, (xB ++ [xb]).length = n7 := ⟨_, rfl⟩
                    rw [hn7] at hn ⊢
                    clear hn7
                    have HB7 := Aside0.mk hb
                    have HS7 := Aside0.mk (HI.out.s.listB hb hn (fun k hk => by
                      rcases hk with (hk | hk) | hk
                      · exact .inl hk
                      · exact .inl (.inr hk)
                      · exact .inr hk))
                    have HCW7 : Aside0 (recol w6 col 4 gw = 0) := ⟨(recol_old (blk_lt HI.out.w)).trans HI.out.cw⟩
                    clear hn hb

                    go_upto_region 18 with (fail)
                    obtain ⟨gy, hgy⟩ : ∃ gy, w7.heap.size = gy := ⟨_, rfl⟩
                    rw [hgy]
                    refine wp_world (fun W => Aside0 (W.heap[gx]? = some (.cells #[.int .i64 0, .int .i64 a, .int .i64 xn, .slice A0 xb.length c0, .bool xu, .int .i64 xk0, .int .i64 xk1] 46 (0, 0))) ∧ Aside0 (W.heap[gy]? = some (.cells (wc a b true m0 m1 (.slice AA xA.length cA) (.slice A7 n7 c7)) 43 (0, 0))) ∧ Aside0 (St w.heap.size W g a b true m0 m1 q0 q1 v0 v1 (.slice AA xA.length cA) (.slice A7 n7 c7) xA xB xA (xB ++ [xb]) (recol w6 col 4)) ∧ Aside0 (W.heap[gw]? = some (.cells (wc a b true m0 m1 (.slice AA xA.length cA) (.slice AB xB.length cB)) 43 (0, 0))) ∧ Aside0 (Below w.heap.size w W)) ⟨⟨blk_alloc (blk_below HX.out HB7.out) _⟩, ⟨by subst hgy; exact blk_new w7 _⟩, ⟨(HS7.out).below (below_alloc (Below.refl _ _) _)⟩, ⟨blk_alloc (blk_below HI.out.w HB7.out) _⟩, ⟨below_alloc (below_step HB.out HB7.out) _⟩⟩ ?_
                    have HGW := Aside0.mk (blk_lt HI.out.w)
                    have HBW := Aside0.mk HI.out.bw
                    have HCW := Aside0.mk HI.out.cw
                    have HMA := Aside0.mk HI.out.mA
                    have HMB := Aside0.mk HI.out.mB
                    have HW67 := Aside0.mk HB7.out.size
                    clear HS7
                    clear hgy HX HB HB7 HI g0 k1 k3
                    rintro w8 ⟨HX, HY, HS, HW, HB⟩
                    have k1 := blk_cell HX.out 1
                    have k3 := blk_cell HX.out 3
                    simp at k1 k3
                    go_wp2_with fail
                    refine (send_via (fun w' => ∃ v', QL w.heap.size w' q1 v' (xB ++ [xb]) (fun k => recol w6 col 4 k = 2 ∨ w8.heap.size ≤ k) ∧ Kq w.heap.size w8 w' q1 v1 v') g a b m0 m1 ⟨q0, 0, none⟩ ⟨q1, 0, none⟩ (some ⟨q1, 0, none⟩) a A0 xb.length c0 _ HS.out.cb (.inl ⟨hsd.out, rfl⟩) 0 (put_calls w.heap.size q1 v1 xB _ A0 c0 xb _ HS.out.h1 (by have := hfl.out; omega) (Kd.C_below HCB.out HB.out) (by omega))).mono ?_
                    rintro e w9 ⟨rfl, v9, hq, hk⟩
                    have HS9 := Aside0.mk (HS.out.queue1 hq (fun _ h => h) hk)
                    obtain ⟨ox0, ox1, ox2, ox3⟩ := HS.out.other HX.out (by decide) (by decide)
                    obtain ⟨oy0, oy1, oy2, oy3⟩ := HS.out.other HY.out (by decide) (by decide)
                    obtain ⟨ow0, ow1, ow2, ow3⟩ := HS.out.other HW.out (by decide) (by decide)
                    have HX9 := Aside0.mk (KeepBut.blk hk.2.1 HX.out ox1 ox3)
                    have HY9 := Aside0.mk (KeepBut.blk hk.2.1 HY.out oy1 oy3)
                    have HW9 := Aside0.mk (KeepBut.blk hk.2.1 HW.out ow1 ow3)
                    have HB9 := Aside0.mk (HB.out.trans hk.1)
                    have HCW9 : Aside0 (recol w8 (recol w6 col 4) 2 gw = 0) := ⟨(recol_old (blk_lt HW.out)).trans HCW7.out⟩
                    clear hq hk ox0 ox1 ox2 ox3 oy0 oy1 oy2 oy3 ow0 ow1 ow2 ow3 HX HY HS HW HB k1 k3

                    have hxw : gx ≠ gw := by
                      intro e
                      have h1 := HX9.out
                      rw [e, HW9.out] at h1
                      simp at h1
                    have HF : Aside0 ((fun wx : World => Aside0 (wx.heap[gx]? = some (.cells #[.int .i64 0, .int .i64 a, .int .i64 xn, .slice A0 xb.length c0, .bool xu, .int .i64 xk0, .int .i64 xk1] 46 (0, 0))) ∧ Aside0 (Known w.heap.size wx g gw a b) ∧ Aside0 (Below w.heap.size w wx)) (w9.setRow gw (wc a b true m0 m1 (.slice AA xA.length cA) (.slice A7 n7 c7)))) := ⟨⟨(setRow_other w9 gw gx _ hxw).trans HX9.out⟩, ⟨true, m0, m1, q0, q1, _, _, _, _, xA, xB ++ [xb], _, HS9.out.setRow HW9.out (by decide) (by decide) (by decide) HCW9.out HBW.out, setRow_heap w9 gw _ _ 43 _ HW9.out, HBW.out, HCW9.out, HMA.out, (HMB.out.snoc (by have := hfl.out; omega) (by omega))⟩, ⟨below_row HB9.out HBW.out _⟩⟩
                    clear hxw HX9 HS9 HB9
                    go_wp2_with (first | ((with_reducible refine gate_dst (N := 96) rfl ?_); refine wpList_load_row rfl 43 (.tmp 12) rfl gy rfl 43 (wc a b true m0 m1 (.slice AA xA.length cA) (.slice A7 n7 c7)) (0, 0) _ HY9.out Try.underlying43 rfl (info43_size _ rfl) ?_) | ((with_reducible refine gate_store (t := 43) (p := 9) (v := .tmp 96) rfl ?_); refine wpList_store_row rfl 43 (.tmp 9) (.tmp 96) rfl gw (wc a b true m0 m1 (.slice AA xA.length cA) (.slice A7 n7 c7)) rfl rfl 43 _ HW9.out (info43_size _ rfl) rfl (wc_one _ _ _ _ _ _ _ _ _ _ _) ?_))
                    go_meet
                    exact HF.out
            · by_cases h1 : xo = b
              · have h1 := h1.symm
                subst h1
                have hxa := Aside0.mk h0
                have hsd : Aside0 (sideF a b b = 1) := ⟨by have := HAB.out; unfold sideF; rw [if_neg (by omega), if_pos rfl]⟩
                clear h0
                cases up
                · as_aux_lemma =>
                    have k1 := blk_cell HX.out 1
                    have k3 := blk_cell HX.out 3
                    simp at k1 k3
                    go_wp2_with (first | ((with_reducible refine gate_dst (N := 80) rfl ?_); refine wpList_load_row rfl 43 (.tmp 9) rfl gw rfl 43 (wc a b false m0 m1 (.slice AA xA.length cA) (.slice AB xB.length cB)) (0, 0) _ HI.out.w Try.underlying43 rfl (info43_size _ rfl) ?_))
                    refine (rsend_down_b a b m0 m1 AA AB xA.length xB.length cA cB b A0 xb.length c0 _ hxa.out rfl).mono ?_
                    rintro e w7 ⟨rfl, hb⟩
                    have HB7 := Aside0.mk hb
                    clear hb

                    go_upto_region 18 with (fail)
                    obtain ⟨gy, hgy⟩ : ∃ gy, w7.heap.size = gy := ⟨_, rfl⟩
                    rw [hgy]
                    refine wp_world (fun W => Aside0 (W.heap[gx]? = some (.cells #[.int .i64 0, .int .i64 b, .int .i64 xn, .slice A0 xb.length c0, .bool xu, .int .i64 xk0, .int .i64 xk1] 46 (0, 0))) ∧ Aside0 (W.heap[gy]? = some (.cells (wc a b false m0 m1 (.slice AA xA.length cA) (.slice AB xB.length cB)) 43 (0, 0))) ∧ Aside0 (St w.heap.size W g a b false m0 m1 q0 q1 v0 v1 (.slice AA xA.length cA) (.slice AB xB.length cB) xA xB xA xB col) ∧ Aside0 (W.heap[gw]? = some (.cells (wc a b false m0 m1 (.slice AA xA.length cA) (.slice AB xB.length cB)) 43 (0, 0))) ∧ Aside0 (Below w.heap.size w W)) ⟨⟨blk_alloc (blk_below HX.out HB7.out) _⟩, ⟨by subst hgy; exact blk_new w7 _⟩, ⟨(HI.out.s.below HB7.out).below (below_alloc (Below.refl _ _) _)⟩, ⟨blk_alloc (blk_below HI.out.w HB7.out) _⟩, ⟨below_alloc (below_step HB.out HB7.out) _⟩⟩ ?_
                    have HGW := Aside0.mk (blk_lt HI.out.w)
                    have HBW := Aside0.mk HI.out.bw
                    have HCW := Aside0.mk HI.out.cw
                    have HMA := Aside0.mk HI.out.mA
                    have HMB := Aside0.mk HI.out.mB
                    have HW67 := Aside0.mk HB7.out.size

                    clear hgy HX HB HB7 HI g0 k1 k3
                    rintro w8 ⟨HX, HY, HS, HW, HB⟩
                    have k1 := blk_cell HX.out 1
                    have k3 := blk_cell HX.out 3
                    simp at k1 k3
                    go_wp2_with fail
                    refine (send_down g a b m0 m1 ⟨q0, 0, none⟩ (some ⟨q1, 0, none⟩) b A0 xb.length c0 _ HS.out.cb (.inr hsd.out)).mono ?_
                    rintro e w9 ⟨rfl, rfl⟩

                    have HX9 := HX
                    have HY9 := HY
                    have HS9 := HS
                    have HW9 := HW
                    have HB9 := HB
                    clear HX HY HS HW HB

                    have hxw : gx ≠ gw := by
                      intro e
                      have h1 := HX9.out
                      rw [e, HW9.out] at h1
                      simp at h1
                    have HF : Aside0 ((fun wx : World => Aside0 (wx.heap[gx]? = some (.cells #[.int .i64 0, .int .i64 b, .int .i64 xn, .slice A0 xb.length c0, .bool xu, .int .i64 xk0, .int .i64 xk1] 46 (0, 0))) ∧ Aside0 (Known w.heap.size wx g gw a b) ∧ Aside0 (Below w.heap.size w wx)) (w9.setRow gw (wc a b false m0 m1 (.slice AA xA.length cA) (.slice AB xB.length cB)))) := ⟨⟨(setRow_other w9 gw gx _ hxw).trans HX9.out⟩, ⟨false, m0, m1, q0, q1, _, _, _, _, xA, xB, _, HS9.out.setRow HW9.out (by decide) (by decide) (by decide) HCW.out HBW.out, setRow_heap w9 gw _ _ 43 _ HW9.out, HBW.out, HCW.out, HMA.out, HMB.out⟩, ⟨below_row HB9.out HBW.out _⟩⟩
                    clear hxw HX9 HS9 HB9
                    go_wp2_with (first | ((with_reducible refine gate_dst (N := 96) rfl ?_); refine wpList_load_row rfl 43 (.tmp 12) rfl gy rfl 43 (wc a b false m0 m1 (.slice AA xA.length cA) (.slice AB xB.length cB)) (0, 0) _ HY9.out Try.underlying43 rfl (info43_size _ rfl) ?_) | ((with_reducible refine gate_store (t := 43) (p := 9) (v := .tmp 96) rfl ?_); refine wpList_store_row rfl 43 (.tmp 9) (.tmp 96) rfl gw (wc a b false m0 m1 (.slice AA xA.length cA) (.slice AB xB.length cB)) rfl rfl 43 _ HW9.out (info43_size _ rfl) rfl (wc_one _ _ _ _ _ _ _ _ _ _ _) ?_))
                    go_meet
                    exact HF.out
                · as_aux_lemma =>
                    by_cases hf : 32 ≤ xA.length
                    · have hfl := Aside0.mk hf
                      clear hf
                      have k1 := blk_cell HX.out 1
                      have k3 := blk_cell HX.out 3
                      simp at k1 k3
                      go_wp2_with (first | ((with_reducible refine gate_dst (N := 80) rfl ?_); refine wpList_load_row rfl 43 (.tmp 9) rfl gw rfl 43 (wc a b true m0 m1 (.slice AA xA.length cA) (.slice AB xB.length cB)) (0, 0) _ HI.out.w Try.underlying43 rfl (info43_size _ rfl) ?_))
                      refine (rsend_full_b a b m0 m1 AA AB xA.length xB.length cA cB b A0 xb.length c0 _ hxa.out rfl hfl.out).mono ?_
                      rintro e w7 ⟨rfl, hb⟩
                      have HB7 := Aside0.mk hb
                      clear hb

                      go_upto_region 18 with (fail)
                      obtain ⟨gy, hgy⟩ : ∃ gy, w7.heap.size = gy := ⟨_, rfl⟩
                      rw [hgy]
                      refine wp_world (fun W => Aside0 (W.heap[gx]? = some (.cells #[.int .i64 0, .int .i64 b, .int .i64 xn, .slice A0 xb.length c0, .bool xu, .int .i64 xk0, .int .i64 xk1] 46 (0, 0))) ∧ Aside0 (W.heap[gy]? = some (.cells (wc a b true m0 m1 (.slice AA xA.length cA) (.slice AB xB.length cB)) 43 (0, 0))) ∧ Aside0 (St w.heap.size W g a b true m0 m1 q0 q1 v0 v1 (.slice AA xA.length cA) (.slice AB xB.length cB) xA xB xA xB col) ∧ Aside0 (W.heap[gw]? = some (.cells (wc a b true m0 m1 (.slice AA xA.length cA) (.slice AB xB.length cB)) 43 (0, 0))) ∧ Aside0 (Below w.heap.size w W)) ⟨⟨blk_alloc (blk_below HX.out HB7.out) _⟩, ⟨by subst hgy; exact blk_new w7 _⟩, ⟨(HI.out.s.below HB7.out).below (below_alloc (Below.refl _ _) _)⟩, ⟨blk_alloc (blk_below HI.out.w HB7.out) _⟩, ⟨below_alloc (below_step HB.out HB7.out) _⟩⟩ ?_
                      have HGW := Aside0.mk (blk_lt HI.out.w)
                      have HBW := Aside0.mk HI.out.bw
                      have HCW := Aside0.mk HI.out.cw
                      have HMA := Aside0.mk HI.out.mA
                      have HMB := Aside0.mk HI.out.mB
                      have HW67 := Aside0.mk HB7.out.size

                      clear hgy HX HB HB7 HI g0 k1 k3
                      rintro w8 ⟨HX, HY, HS, HW, HB⟩
                      have k1 := blk_cell HX.out 1
                      have k3 := blk_cell HX.out 3
                      simp at k1 k3
                      go_wp2_with fail
                      refine (send_via (fun w' => w' = w8) g a b m0 m1 ⟨q0, 0, none⟩ ⟨q0, 0, none⟩ (some ⟨q1, 0, none⟩) b A0 xb.length c0 _ HS.out.cb (.inr ⟨hsd.out, rfl⟩) 4 (put_full w.heap.size q0 v0 xA _ A0 xb.length c0 _ HS.out.h0 hfl.out)).mono ?_
                      rintro e w9 ⟨rfl, rfl⟩

                      have HX9 := HX
                      have HY9 := HY
                      have HS9 := HS
                      have HW9 := HW
                      have HB9 := HB
                      clear HX HY HS HW HB

                      have hxw : gx ≠ gw := by
                        intro e
                        have h1 := HX9.out
                        rw [e, HW9.out] at h1
                        simp at h1
                      have HF : Aside0 ((fun wx : World => Aside0 (wx.heap[gx]? = some (.cells #[.int .i64 0, .int .i64 b, .int .i64 xn, .slice A0 xb.length c0, .bool xu, .int .i64 xk0, .int .i64 xk1] 46 (0, 0))) ∧ Aside0 (Known w.heap.size wx g gw a b) ∧ Aside0 (Below w.heap.size w wx)) (w9.setRow gw (wc a b true m0 m1 (.slice AA xA.length cA) (.slice AB xB.length cB)))) := ⟨⟨(setRow_other w9 gw gx _ hxw).trans HX9.out⟩, ⟨true, m0, m1, q0, q1, _, _, _, _, xA, xB, _, HS9.out.setRow HW9.out (by decide) (by decide) (by decide) HCW.out HBW.out, setRow_heap w9 gw _ _ 43 _ HW9.out, HBW.out, HCW.out, HMA.out, HMB.out⟩, ⟨below_row HB9.out HBW.out _⟩⟩
                      clear hxw HX9 HS9 HB9
                      go_wp2_with (first | ((with_reducible refine gate_dst (N := 96) rfl ?_); refine wpList_load_row rfl 43 (.tmp 12) rfl gy rfl 43 (wc a b true m0 m1 (.slice AA xA.length cA) (.slice AB xB.length cB)) (0, 0) _ HY9.out Try.underlying43 rfl (info43_size _ rfl) ?_) | ((with_reducible refine gate_store (t := 43) (p := 9) (v := .tmp 96) rfl ?_); refine wpList_store_row rfl 43 (.tmp 9) (.tmp 96) rfl gw (wc a b true m0 m1 (.slice AA xA.length cA) (.slice AB xB.length cB)) rfl rfl 43 _ HW9.out (info43_size _ rfl) rfl (wc_one _ _ _ _ _ _ _ _ _ _ _) ?_))
                      go_meet
                      exact HF.out
                    · have hfl := Aside0.mk hf
                      clear hf
                      have k1 := blk_cell HX.out 1
                      have k3 := blk_cell HX.out 3
                      simp at k1 k3
                      go_wp2_with (first | ((with_reducible refine gate_dst (N := 80) rfl ?_); refine wpList_load_row rfl 43 (.tmp 9) rfl gw rfl 43 (wc a b true m0 m1 (.slice AA xA.length cA) (.slice AB xB.length cB)) (0, 0) _ HI.out.w Try.underlying43 rfl (info43_size _ rfl) ?_))
                      refine (rsend_ok_b a b m0 m1 AA AB cA cB xB.length b A0 c0 xA xb _ (fun k => k < w.heap.size) _ hxa.out rfl (by have := hfl.out; omega) (Kd.N_V HI.out.s.nA) (Kd.V_mk HLC.out (Kd.F_below (Kd.C_F (Kd.heap_int .u8) HCB.out) HB.out))).mono ?_
                      rintro e w7 ⟨v7, rfl, hn, hb⟩
                      obtain ⟨A7, c7, rfl⟩ := Kd.N_slice hn
                      obtain ⟨n7, hn7⟩ : ∃ n7, (xA ++ [xb]).length = n7 := ⟨_, rfl⟩
                      rw [hn7] at hn ⊢
                      clear hn7
                      have HB7 := Aside0.mk hb
                      have HS7 := Aside0.mk (HI.out.s.listA hb hn (fun k hk => by
                        rcases hk with (hk | hk) | hk
                        · exact .inl hk
                        · exact .inl (.inr hk)
                        · exact .inr hk))
                      have HCW7 : Aside0 (recol w6 col 3 gw = 0) := ⟨(recol_old (blk_lt HI.out.w)).trans HI.out.cw⟩
                      clear hn hb

                      go_upto_region 18 with (fail)
                      obtain ⟨gy, hgy⟩ : ∃ gy, w7.heap.size = gy := ⟨_, rfl⟩
                      rw [hgy]
                      refine wp_world (fun W => Aside0 (W.heap[gx]? = some (.cells #[.int .i64 0, .int .i64 b, .int .i64 xn, .slice A0 xb.length c0, .bool xu, .int .i64 xk0, .int .i64 xk1] 46 (0, 0))) ∧ Aside0 (W.heap[gy]? = some (.cells (wc a b true m0 m1 (.slice A7 n7 c7) (.slice AB xB.length cB)) 43 (0, 0))) ∧ Aside0 (St w.heap.size W g a b true m0 m1 q0 q1 v0 v1 (.slice A7 n7 c7) (.slice AB xB.length cB) xA xB (xA ++ [xb]) xB (recol w6 col 3)) ∧ Aside0 (W.heap[gw]? = some (.cells (wc a b true m0 m1 (.slice AA xA.length cA) (.slice AB xB.length cB)) 43 (0, 0))) ∧ Aside0 (Below w.heap.size w W)) ⟨⟨blk_alloc (blk_below HX.out HB7.out) _⟩, ⟨by subst hgy; exact blk_new w7 _⟩, ⟨(HS7.out).below (below_alloc (Below.refl _ _) _)⟩, ⟨blk_alloc (blk_below HI.out.w HB7.out) _⟩, ⟨below_alloc (below_step HB.out HB7.out) _⟩⟩ ?_
                      have HGW := Aside0.mk (blk_lt HI.out.w)
                      have HBW := Aside0.mk HI.out.bw
                      have HCW := Aside0.mk HI.out.cw
                      have HMA := Aside0.mk HI.out.mA
                      have HMB := Aside0.mk HI.out.mB
                      have HW67 := Aside0.mk HB7.out.size
                      clear HS7
                      clear hgy HX HB HB7 HI g0 k1 k3
                      rintro w8 ⟨HX, HY, HS, HW, HB⟩
                      have k1 := blk_cell HX.out 1
                      have k3 := blk_cell HX.out 3
                      simp at k1 k3
                      go_wp2_with fail
                      refine (send_via (fun w' => ∃ v', QL w.heap.size w' q0 v' (xA ++ [xb]) (fun k => recol w6 col 3 k = 1 ∨ w8.heap.size ≤ k) ∧ Kq w.heap.size w8 w' q0 v0 v') g a b m0 m1 ⟨q0, 0, none⟩ ⟨q0, 0, none⟩ (some ⟨q1, 0, none⟩) b A0 xb.length c0 _ HS.out.cb (.inr ⟨hsd.out, rfl⟩) 0 (put_calls w.heap.size q0 v0 xA _ A0 c0 xb _ HS.out.h0 (by have := hfl.out; omega) (Kd.C_below HCB.out HB.out) (by omega))).mono ?_
                      rintro e w9 ⟨rfl, v9, hq, hk⟩
                      have HS9 := Aside0.mk (HS.out.queue0 hq (fun _ h => h) hk)
                      obtain ⟨ox0, ox1, ox2, ox3⟩ := HS.out.other HX.out (by decide) (by decide)
                      obtain ⟨oy0, oy1, oy2, oy3⟩ := HS.out.other HY.out (by decide) (by decide)
                      obtain ⟨ow0, ow1, ow2, ow3⟩ := HS.out.other HW.out (by decide) (by decide)
                      have HX9 := Aside0.mk (KeepBut.blk hk.2.1 HX.out ox0 ox2)
                      have HY9 := Aside0.mk (KeepBut.blk hk.2.1 HY.out oy0 oy2)
                      have HW9 := Aside0.mk (KeepBut.blk hk.2.1 HW.out ow0 ow2)
                      have HB9 := Aside0.mk (HB.out.trans hk.1)
                      have HCW9 : Aside0 (recol w8 (recol w6 col 3) 1 gw = 0) := ⟨(recol_old (blk_lt HW.out)).trans HCW7.out⟩
                      clear hq hk ox0 ox1 ox2 ox3 oy0 oy1 oy2 oy3 ow0 ow1 ow2 ow3 HX HY HS HW HB k1 k3

                      have hxw : gx ≠ gw := by
                        intro e
                        have h1 := HX9.out
                        rw [e, HW9.out] at h1
                        simp at h1
                      have HF : Aside0 ((fun wx : World => Aside0 (wx.heap[gx]? = some (.cells #[.int .i64 0, .int .i64 b, .int .i64 xn, .slice A0 xb.length c0, .bool xu, .int .i64 xk0, .int .i64 xk1] 46 (0, 0))) ∧ Aside0 (Known w.heap.size wx g gw a b) ∧ Aside0 (Below w.heap.size w wx)) (w9.setRow gw (wc a b true m0 m1 (.slice A7 n7 c7) (.slice AB xB.length cB)))) := ⟨⟨(setRow_other w9 gw gx _ hxw).trans HX9.out⟩, ⟨true, m0, m1, q0, q1, _, _, _, _, xA ++ [xb], xB, _, HS9.out.setRow HW9.out (by decide) (by decide) (by decide) HCW9.out HBW.out, setRow_heap w9 gw _ _ 43 _ HW9.out, HBW.out, HCW9.out, (HMA.out.snoc (by have := hfl.out; omega) (by omega)), HMB.out⟩, ⟨below_row HB9.out HBW.out _⟩⟩
                      clear hxw HX9 HS9 HB9
                      go_wp2_with (first | ((with_reducible refine gate_dst (N := 96) rfl ?_); refine wpList_load_row rfl 43 (.tmp 12) rfl gy rfl 43 (wc a b true m0 m1 (.slice A7 n7 c7) (.slice AB xB.length cB)) (0, 0) _ HY9.out Try.underlying43 rfl (info43_size _ rfl) ?_) | ((with_reducible refine gate_store (t := 43) (p := 9) (v := .tmp 96) rfl ?_); refine wpList_store_row rfl 43 (.tmp 9) (.tmp 96) rfl gw (wc a b true m0 m1 (.slice A7 n7 c7) (.slice AB xB.length cB)) rfl rfl 43 _ HW9.out (info43_size _ rfl) rfl (wc_one _ _ _ _ _ _ _ _ _ _ _) ?_))
                      go_meet
                      exact HF.out
              · have hxa := Aside0.mk h0
                have hxb := Aside0.mk h1
                have hsd : Aside0 (sideF a b xo = -1) := ⟨by unfold sideF; rw [if_neg (fun e => h0 e.symm), if_neg (fun e => h1 e.symm)]⟩
                clear h0 h1
                as_aux_lemma =>
                  have k1 := blk_cell HX.out 1
                  have k3 := blk_cell HX.out 3
                  simp at k1 k3
                  go_wp2_with (first | ((with_reducible refine gate_dst (N := 80) rfl ?_); refine wpList_load_row rfl 43 (.tmp 9) rfl gw rfl 43 (wc a b up m0 m1 (.slice AA xA.length cA) (.slice AB xB.length cB)) (0, 0) _ HI.out.w Try.underlying43 rfl (info43_size _ rfl) ?_))
                  refine (rsend_arg a b up m0 m1 AA AB xA.length xB.length cA cB xo A0 xb.length c0 _ hxa.out hxb.out).mono ?_
                  rintro e w7 ⟨rfl, hb⟩
                  have HB7 := Aside0.mk hb
                  clear hb

                  go_upto_region 18 with (fail)
                  obtain ⟨gy, hgy⟩ : ∃ gy, w7.heap.size = gy := ⟨_, rfl⟩
                  rw [hgy]
                  refine wp_world (fun W => Aside0 (W.heap[gx]? = some (.cells #[.int .i64 0, .int .i64 xo, .int .i64 xn, .slice A0 xb.length c0, .bool xu, .int .i64 xk0, .int .i64 xk1] 46 (0, 0))) ∧ Aside0 (W.heap[gy]? = some (.cells (wc a b up m0 m1 (.slice AA xA.length cA) (.slice AB xB.length cB)) 43 (0, 0))) ∧ Aside0 (St w.heap.size W g a b up m0 m1 q0 q1 v0 v1 (.slice AA xA.length cA) (.slice AB xB.length cB) xA xB xA xB col) ∧ Aside0 (W.heap[gw]? = some (.cells (wc a b up m0 m1 (.slice AA xA.length cA) (.slice AB xB.length cB)) 43 (0, 0))) ∧ Aside0 (Below w.heap.size w W)) ⟨⟨blk_alloc (blk_below HX.out HB7.out) _⟩, ⟨by subst hgy; exact blk_new w7 _⟩, ⟨(HI.out.s.below HB7.out).below (below_alloc (Below.refl _ _) _)⟩, ⟨blk_alloc (blk_below HI.out.w HB7.out) _⟩, ⟨below_alloc (below_step HB.out HB7.out) _⟩⟩ ?_
                  have HGW := Aside0.mk (blk_lt HI.out.w)
                  have HBW := Aside0.mk HI.out.bw
                  have HCW := Aside0.mk HI.out.cw
                  have HMA := Aside0.mk HI.out.mA
                  have HMB := Aside0.mk HI.out.mB
                  have HW67 := Aside0.mk HB7.out.size

                  clear hgy HX HB HB7 HI g0 k1 k3
                  rintro w8 ⟨HX, HY, HS, HW, HB⟩
                  have k1 := blk_cell HX.out 1
                  have k3 := blk_cell HX.out 3
                  simp at k1 k3
                  go_wp2_with fail
                  refine (send_arg g a b up m0 m1 ⟨q0, 0, none⟩ (some ⟨q1, 0, none⟩) xo A0 xb.length c0 _ HS.out.cb hsd.out).mono ?_
                  rintro e w9 ⟨rfl, rfl⟩

                  have HX9 := HX
                  have HY9 := HY
                  have HS9 := HS
                  have HW9 := HW
                  have HB9 := HB
                  clear HX HY HS HW HB

                  have hxw : gx ≠ gw := by
                    intro e
                    have h1 := HX9.out
                    rw [e, HW9.out] at h1
                    simp at h1
                  have HF : Aside0 ((fun wx : World => Aside0 (wx.heap[gx]? = some (.cells #[.int .i64 0, .int .i64 xo, .int .i64 xn, .slice A0 xb.length c0, .bool xu, .int .i64 xk0, .int .i64 xk1] 46 (0, 0))) ∧ Aside0 (Known w.heap.size wx g gw a b) ∧ Aside0 (Below w.heap.size w wx)) (w9.setRow gw (wc a b up m0 m1 (.slice AA xA.length cA) (.slice AB xB.length cB)))) := ⟨⟨(setRow_other w9 gw gx _ hxw).trans HX9.out⟩, ⟨up, m0, m1, q0, q1, _, _, _, _, xA, xB, _, HS9.out.setRow HW9.out (by decide) (by decide) (by decide) HCW.out HBW.out, setRow_heap w9 gw _ _ 43 _ HW9.out, HBW.out, HCW.out, HMA.out, HMB.out⟩, ⟨below_row HB9.out HBW.out _⟩⟩
                  clear hxw HX9 HS9 HB9
                  go_wp2_with (first | ((with_reducible refine gate_dst (N := 96) rfl ?_); refine wpList_load_row rfl 43 (.tmp 12) rfl gy rfl 43 (wc a b up m0 m1 (.slice AA xA.length cA) (.slice AB xB.length cB)) (0, 0) _ HY9.out Try.underlying43 rfl (info43_size _ rfl) ?_) | ((with_reducible refine gate_store (t := 43) (p := 9) (v := .tmp 96) rfl ?_); refine wpList_store_row rfl 43 (.tmp 9) (.tmp 96) rfl gw (wc a b up m0 m1 (.slice AA xA.length cA) (.slice AB xB.length cB)) rfl rfl 43 _ HW9.out (info43_size _ rfl) rfl (wc_one _ _ _ _ _ _ _ _ _ _ _) ?_))
                  go_meet
                  exact HF.out
          · by_cases d1 : xd = 1
            · subst d1
              obtain ⟨up, m0, m1, q0, q1, v0, v1, lA, lB, xA, xB, col, hi⟩ := HN.out
              obtain ⟨AA, cA, rfl⟩ := Kd.N_slice hi.s.nA
              obtain ⟨AB, cB, rfl⟩ := Kd.N_slice hi.s.nB
              have HI := Aside0.mk hi
              clear hi HN
              by_cases hc : costOk xk0 ∧ costOk xk1
              · have hco := Aside0.mk hc
                clear hc
                cases xu
                · as_aux_lemma =>
                    have k4 := blk_cell HX.out 4
                    have k5 := blk_cell HX.out 5
                    have k6 := blk_cell HX.out 6
                    simp at k4 k5 k6
                    go_wp2_with (first | ((with_reducible refine gate_dst (N := 100) rfl ?_); refine wpList_load_row rfl 43 (.tmp 9) rfl gw rfl 43 (wc a b up m0 m1 (.slice AA xA.length cA) (.slice AB xB.length cB)) (0, 0) _ HI.out.w Try.underlying43 rfl (info43_size _ rfl) ?_))
                    refine (rset_down a b up m0 m1 AA AB xA.length xB.length cA cB xk0 xk1 _ hco.out.1 hco.out.2).mono ?_
                    rintro e w7 ⟨rfl, hb⟩
                    have HB7 := Aside0.mk hb
                    clear hb

                    go_upto_region 23 with (fail)
                    obtain ⟨gy, hgy⟩ : ∃ gy, w7.heap.size = gy := ⟨_, rfl⟩
                    rw [hgy]
                    refine wp_world (fun W => Aside0 (W.heap[gx]? = some (.cells #[.int .i64 1, .int .i64 xo, .int .i64 xn, .slice A0 xb.length c0, .bool false, .int .i64 xk0, .int .i64 xk1] 46 (0, 0))) ∧ Aside0 (W.heap[gy]? = some (.cells (wc a b false xk0 xk1 (.slice none 0 0) (.slice none 0 0)) 43 (0, 0))) ∧ Aside0 (St w.heap.size W g a b up m0 m1 q0 q1 v0 v1 (.slice AA xA.length cA) (.slice AB xB.length cB) xA xB xA xB col) ∧ Aside0 (W.heap[gw]? = some (.cells (wc a b up m0 m1 (.slice AA xA.length cA) (.slice AB xB.length cB)) 43 (0, 0))) ∧ Aside0 (Below w.heap.size w W)) ⟨⟨blk_alloc (blk_below HX.out HB7.out) _⟩, ⟨by subst hgy; exact blk_new w7 _⟩, ⟨(HI.out.s.below HB7.out).below (below_alloc (Below.refl _ _) _)⟩, ⟨blk_alloc (blk_below HI.out.w HB7.out) _⟩, ⟨below_alloc (below_step HB.out HB7.out) _⟩⟩ ?_
                    have HBW := Aside0.mk HI.out.bw
                    have HCW := Aside0.mk HI.out.cw
                    have HMA := Aside0.mk HI.out.mA
                    have HMB := Aside0.mk HI.out.mB
                    clear hgy HX HB HB7 HI g0 k4 k5 k6
                    rintro w8 ⟨HX, HY, HS, HW, HB⟩
                    have k4 := blk_cell HX.out 4
                    have k5 := blk_cell HX.out 5
                    have k6 := blk_cell HX.out 6
                    simp at k4 k5 k6
                    go_wp2_with fail
                    refine (set_down g a b up m0 m1 q0 q1 v0 v1 xk0 xk1 _ HS.out.cb HS.out.h0.1 HS.out.h1.1 HS.out.ne hco.out.1 hco.out.2).mono ?_
                    rintro e w9 ⟨rfl, hc, hq0, hq1, hk, hb⟩
                    have ng : ∀ (k : Nat) (cs : Array Value) (t : Nat), t ≠ 29 → w8.heap[k]? = some (.cells cs t (0, 0)) → k ≠ g := by
                      intro k cs t ht hb e
                      have h1 := HS.out.cb
                      unfold CB at h1
                      rw [e, h1] at hb
                      simp at hb
                      exact ht hb.2.symm
                    obtain ⟨ox0, ox1, _, _⟩ := HS.out.other HX.out (by decide) (by decide)
                    obtain ⟨oy0, oy1, _, _⟩ := HS.out.other HY.out (by decide) (by decide)
                    obtain ⟨ow0, ow1, _, _⟩ := HS.out.other HW.out (by decide) (by decide)
                    have HX9 := Aside0.mk (blk_kept HX.out hk (by rintro (e | e | e); exact ng gx _ 46 (by decide) HX.out e; exact ox0 e; exact ox1 e))
                    have HY9 := Aside0.mk (blk_kept HY.out hk (by rintro (e | e | e); exact ng gy _ 43 (by decide) HY.out e; exact oy0 e; exact oy1 e))
                    have HW9 := Aside0.mk (blk_kept HW.out hk (by rintro (e | e | e); exact ng gw _ 43 (by decide) HW.out e; exact ow0 e; exact ow1 e))
                    have HS9 := Aside0.mk (HS.out.empty hc hq0 hq1)
                    have HB9 := Aside0.mk (HB.out.trans (hb w.heap.size HS.out.bg HS.out.h0.2.1 HS.out.h1.2.1))
                    clear hc hk hb ng hq0 hq1 ox0 ox1 oy0 oy1 ow0 ow1 HX HY HS HW HB k4 k5 k6

                    have hxw : gx ≠ gw := by
                      intro e
                      have h1 := HX9.out
                      rw [e, HW9.out] at h1
                      simp at h1
                    have HF : Aside0 ((fun wx : World => Aside0 (wx.heap[gx]? = some (.cells #[.int .i64 1, .int .i64 xo, .int .i64 xn, .slice A0 xb.length c0, .bool false, .int .i64 xk0, .int .i64 xk1] 46 (0, 0))) ∧ Aside0 (Known w.heap.size wx g gw a b) ∧ Aside0 (Below w.heap.size w wx)) (w9.setRow gw (wc a b false xk0 xk1 (.slice none 0 0) (.slice none 0 0)))) := ⟨⟨(setRow_other w9 gw gx _ hxw).trans HX9.out⟩, ⟨false, xk0, xk1, q0, q1, _, _, _, _, [], [], _, HS9.out.setRow HW9.out (by decide) (by decide) (by decide) HCW.out HBW.out, setRow_heap w9 gw _ _ 43 _ HW9.out, HBW.out, HCW.out, Small.nil, Small.nil⟩, ⟨below_row HB9.out HBW.out _⟩⟩
                    clear hxw HX9 HS9 HB9
                    go_wp2_with (first | ((with_reducible refine gate_dst (N := 116) rfl ?_); refine wpList_load_row rfl 43 (.tmp 14) rfl gy rfl 43 (wc a b false xk0 xk1 (.slice none 0 0) (.slice none 0 0)) (0, 0) _ HY9.out Try.underlying43 rfl (info43_size _ rfl) ?_) | ((with_reducible refine gate_store (t := 43) (p := 9) (v := .tmp 116) rfl ?_); refine wpList_store_row rfl 43 (.tmp 9) (.tmp 116) rfl gw (wc a b false xk0 xk1 (.slice none 0 0) (.slice none 0 0)) rfl rfl 43 _ HW9.out (info43_size _ rfl) rfl (wc_one _ _ _ _ _ _ _ _ _ _ _) ?_))
                    go_meet
                    exact HF.out
                · as_aux_lemma =>
                    have k4 := blk_cell HX.out 4
                    have k5 := blk_cell HX.out 5
                    have k6 := blk_cell HX.out 6
                    simp at k4 k5 k6
                    go_wp2_with (first | ((with_reducible refine gate_dst (N := 100) rfl ?_); refine wpList_load_row rfl 43 (.tmp 9) rfl gw rfl 43 (wc a b up m0 m1 (.slice AA xA.length cA) (.slice AB xB.length cB)) (0, 0) _ HI.out.w Try.underlying43 rfl (info43_size _ rfl) ?_))
                    refine (rset_up a b up m0 m1 AA AB xA.length xB.length cA cB xk0 xk1 _ hco.out.1 hco.out.2).mono ?_
                    rintro e w7 ⟨rfl, hb⟩
                    have HB7 := Aside0.mk hb
                    clear hb

                    go_upto_region 23 with (fail)
                    obtain ⟨gy, hgy⟩ : ∃ gy, w7.heap.size = gy := ⟨_, rfl⟩
                    rw [hgy]
                    refine wp_world (fun W => Aside0 (W.heap[gx]? = some (.cells #[.int .i64 1, .int .i64 xo, .int .i64 xn, .slice A0 xb.length c0, .bool true, .int .i64 xk0, .int .i64 xk1] 46 (0, 0))) ∧ Aside0 (W.heap[gy]? = some (.cells (wc a b true xk0 xk1 (.slice AA xA.length cA) (.slice AB xB.length cB)) 43 (0, 0))) ∧ Aside0 (St w.heap.size W g a b up m0 m1 q0 q1 v0 v1 (.slice AA xA.length cA) (.slice AB xB.length cB) xA xB xA xB col) ∧ Aside0 (W.heap[gw]? = some (.cells (wc a b up m0 m1 (.slice AA xA.length cA) (.slice AB xB.length cB)) 43 (0, 0))) ∧ Aside0 (Below w.heap.size w W)) ⟨⟨blk_alloc (blk_below HX.out HB7.out) _⟩, ⟨by subst hgy; exact blk_new w7 _⟩, ⟨(HI.out.s.below HB7.out).below (below_alloc (Below.refl _ _) _)⟩, ⟨blk_alloc (blk_below HI.out.w HB7.out) _⟩, ⟨below_alloc (below_step HB.out HB7.out) _⟩⟩ ?_
                    have HBW := Aside0.mk HI.out.bw
                    have HCW := Aside0.mk HI.out.cw
                    have HMA := Aside0.mk HI.out.mA
                    have HMB := Aside0.mk HI.out.mB
                    clear hgy HX HB HB7 HI g0 k4 k5 k6
                    rintro w8 ⟨HX, HY, HS, HW, HB⟩
                    have k4 := blk_cell HX.out 4
                    have k5 := blk_cell HX.out 5
                    have k6 := blk_cell HX.out 6
                    simp at k4 k5 k6
                    go_wp2_with fail
                    refine (set_up g a b up m0 m1 ⟨q0, 0, none⟩ (some ⟨q1, 0, none⟩) xk0 xk1 _ HS.out.cb hco.out.1 hco.out.2).mono ?_
                    rintro e w9 ⟨rfl, hc, hk, hb⟩
                    have ng : ∀ (k : Nat) (cs : Array Value) (t : Nat), t ≠ 29 → w8.heap[k]? = some (.cells cs t (0, 0)) → k ≠ g := by
                      intro k cs t ht hb e
                      have h1 := HS.out.cb
                      unfold CB at h1
                      rw [e, h1] at hb
                      simp at hb
                      exact ht hb.2.symm
                    have HX9 := Aside0.mk (KeepBut.blk hk HX.out (ng gx _ 46 (by decide) HX.out) (by simp))
                    have HY9 := Aside0.mk (KeepBut.blk hk HY.out (ng gy _ 43 (by decide) HY.out) (by simp))
                    have HW9 := Aside0.mk (KeepBut.blk hk HW.out (ng gw _ 43 (by decide) HW.out) (by simp))
                    have HS9 := Aside0.mk (HS.out.head hc hk)
                    have HB9 := Aside0.mk (HB.out.trans (hb w.heap.size HS.out.bg))
                    clear hc hk hb ng HX HY HS HW HB k4 k5 k6

                    have hxw : gx ≠ gw := by
                      intro e
                      have h1 := HX9.out
                      rw [e, HW9.out] at h1
                      simp at h1
                    have HF : Aside0 ((fun wx : World => Aside0 (wx.heap[gx]? = some (.cells #[.int .i64 1, .int .i64 xo, .int .i64 xn, .slice A0 xb.length c0, .bool true, .int .i64 xk0, .int .i64 xk1] 46 (0, 0))) ∧ Aside0 (Known w.heap.size wx g gw a b) ∧ Aside0 (Below w.heap.size w wx)) (w9.setRow gw (wc a b true xk0 xk1 (.slice AA xA.length cA) (.slice AB xB.length cB)))) := ⟨⟨(setRow_other w9 gw gx _ hxw).trans HX9.out⟩, ⟨true, xk0, xk1, q0, q1, _, _, _, _, xA, xB, _, HS9.out.setRow HW9.out (by decide) (by decide) (by decide) HCW.out HBW.out, setRow_heap w9 gw _ _ 43 _ HW9.out, HBW.out, HCW.out, HMA.out, HMB.out⟩, ⟨below_row HB9.out HBW.out _⟩⟩
                    clear hxw HX9 HS9 HB9
                    go_wp2_with (first | ((with_reducible refine gate_dst (N := 116) rfl ?_); refine wpList_load_row rfl 43 (.tmp 14) rfl gy rfl 43 (wc a b true xk0 xk1 (.slice AA xA.length cA) (.slice AB xB.length cB)) (0, 0) _ HY9.out Try.underlying43 rfl (info43_size _ rfl) ?_) | ((with_reducible refine gate_store (t := 43) (p := 9) (v := .tmp 116) rfl ?_); refine wpList_store_row rfl 43 (.tmp 9) (.tmp 116) rfl gw (wc a b true xk0 xk1 (.slice AA xA.length cA) (.slice AB xB.length cB)) rfl rfl 43 _ HW9.out (info43_size _ rfl) rfl (wc_one _ _ _ _ _ _ _ _ _ _ _) ?_))
                    go_meet
                    exact HF.out
              · have hco := Aside0.mk hc
                clear hc
                as_aux_lemma =>
                  have k4 := blk_cell HX.out 4
                  have k5 := blk_cell HX.out 5
                  have k6 := blk_cell HX.out 6
                  simp at k4 k5 k6
                  go_wp2_with (first | ((with_reducible refine gate_dst (N := 100) rfl ?_); refine wpList_load_row rfl 43 (.tmp 9) rfl gw rfl 43 (wc a b up m0 m1 (.slice AA xA.length cA) (.slice AB xB.length cB)) (0, 0) _ HI.out.w Try.underlying43 rfl (info43_size _ rfl) ?_))
                  refine (rset_arg a b up m0 m1 AA AB xA.length xB.length cA cB xu xk0 xk1 _ hco.out).mono ?_
                  rintro e w7 ⟨rfl, hb⟩
                  have HB7 := Aside0.mk hb
                  clear hb

                  go_upto_region 23 with (fail)
                  obtain ⟨gy, hgy⟩ : ∃ gy, w7.heap.size = gy := ⟨_, rfl⟩
                  rw [hgy]
                  refine wp_world (fun W => Aside0 (W.heap[gx]? = some (.cells #[.int .i64 1, .int .i64 xo, .int .i64 xn, .slice A0 xb.length c0, .bool xu, .int .i64 xk0, .int .i64 xk1] 46 (0, 0))) ∧ Aside0 (W.heap[gy]? = some (.cells (wc a b up m0 m1 (.slice AA xA.length cA) (.slice AB xB.length cB)) 43 (0, 0))) ∧ Aside0 (St w.heap.size W g a b up m0 m1 q0 q1 v0 v1 (.slice AA xA.length cA) (.slice AB xB.length cB) xA xB xA xB col) ∧ Aside0 (W.heap[gw]? = some (.cells (wc a b up m0 m1 (.slice AA xA.length cA) (.slice AB xB.length cB)) 43 (0, 0))) ∧ Aside0 (Below w.heap.size w W)) ⟨⟨blk_alloc (blk_below HX.out HB7.out) _⟩, ⟨by subst hgy; exact blk_new w7 _⟩, ⟨(HI.out.s.below HB7.out).below (below_alloc (Below.refl _ _) _)⟩, ⟨blk_alloc (blk_below HI.out.w HB7.out) _⟩, ⟨below_alloc (below_step HB.out HB7.out) _⟩⟩ ?_
                  have HBW := Aside0.mk HI.out.bw
                  have HCW := Aside0.mk HI.out.cw
                  have HMA := Aside0.mk HI.out.mA
                  have HMB := Aside0.mk HI.out.mB
                  clear hgy HX HB HB7 HI g0 k4 k5 k6
                  rintro w8 ⟨HX, HY, HS, HW, HB⟩
                  have k4 := blk_cell HX.out 4
                  have k5 := blk_cell HX.out 5
                  have k6 := blk_cell HX.out 6
                  simp at k4 k5 k6
                  go_wp2_with fail
                  refine (set_arg g a b up m0 m1 ⟨q0, 0, none⟩ (some ⟨q1, 0, none⟩) xu xk0 xk1 _ HS.out.cb hco.out).mono ?_
                  rintro e w9 ⟨rfl, hb⟩
                  have HX9 := Aside0.mk (blk_below HX.out hb)
                  have HY9 := Aside0.mk (blk_below HY.out hb)
                  have HS9 := Aside0.mk (HS.out.below hb)
                  have HW9 := Aside0.mk (blk_below HW.out hb)
                  have HB9 := Aside0.mk (below_step HB.out hb)
                  clear hb HX HY HS HW HB k4 k5 k6

                  have hxw : gx ≠ gw := by
                    intro e
                    have h1 := HX9.out
                    rw [e, HW9.out] at h1
                    simp at h1
                  have HF : Aside0 ((fun wx : World => Aside0 (wx.heap[gx]? = some (.cells #[.int .i64 1, .int .i64 xo, .int .i64 xn, .slice A0 xb.length c0, .bool xu, .int .i64 xk0, .int .i64 xk1] 46 (0, 0))) ∧ Aside0 (Known w.heap.size wx g gw a b) ∧ Aside0 (Below w.heap.size w wx)) (w9.setRow gw (wc a b up m0 m1 (.slice AA xA.length cA) (.slice AB xB.length cB)))) := ⟨⟨(setRow_other w9 gw gx _ hxw).trans HX9.out⟩, ⟨up, m0, m1, q0, q1, _, _, _, _, xA, xB, _, HS9.out.setRow HW9.out (by decide) (by decide) (by decide) HCW.out HBW.out, setRow_heap w9 gw _ _ 43 _ HW9.out, HBW.out, HCW.out, HMA.out, HMB.out⟩, ⟨below_row HB9.out HBW.out _⟩⟩
                  clear hxw HX9 HS9 HB9
                  go_wp2_with (first | ((with_reducible refine gate_dst (N := 116) rfl ?_); refine wpList_load_row rfl 43 (.tmp 14) rfl gy rfl 43 (wc a b up m0 m1 (.slice AA xA.length cA) (.slice AB xB.length cB)) (0, 0) _ HY9.out Try.underlying43 rfl (info43_size _ rfl) ?_) | ((with_reducible refine gate_store (t := 43) (p := 9) (v := .tmp 116) rfl ?_); refine wpList_store_row rfl 43 (.tmp 9) (.tmp 116) rfl gw (wc a b up m0 m1 (.slice AA xA.length cA) (.slice AB xB.length cB)) rfl rfl 43 _ HW9.out (info43_size _ rfl) rfl (wc_one _ _ _ _ _ _ _ _ _ _ _) ?_))
                  go_meet
                  exact HF.out
            · by_cases d2 : xd = 2
              · subst d2
                obtain ⟨up, m0, m1, q0, q1, v0, v1, lA, lB, xA, xB, col, hi⟩ := HN.out
                obtain ⟨AA, cA, rfl⟩ := Kd.N_slice hi.s.nA
                obtain ⟨AB, cB, rfl⟩ := Kd.N_slice hi.s.nB
                have HI := Aside0.mk hi
                clear hi HN
                by_cases h0 : xo = a
                · have h0 := h0.symm
                  subst h0
                  have e0 : (a == b) = false := by have := HAB.out; simp; omega

                  by_cases hth : 0 ≤ xn ∧ xn < (xA.length : Int)
                  · obtain ⟨n, rfl⟩ := Int.eq_ofNat_of_zero_le hth.1
                    have HN : Aside0 (n < xA.length) := ⟨by omega⟩
                    clear hth
                    as_aux_lemma =>
                      have HTO : Aside0 (toF a b (some ⟨q0, 0, none⟩) (some ⟨q1, 0, none⟩) a = some ⟨q0, 0, none⟩) := ⟨by unfold toF; rw [if_pos rfl]⟩
                      have k1 := blk_cell HX.out 1
                      have k2 := blk_cell HX.out 2
                      simp at k1 k2
                      go_wp2_with fail
                      refine (to_yes g a b up m0 m1 ⟨q0, 0, none⟩ (some ⟨q1, 0, none⟩) a _ HI.out.s.cb).mono ?_
                      rw [HTO.out]
                      rintro e w7 ⟨rfl, rfl⟩

                      have i5 : xA.length ≤ 1000 := by have := HI.out.mA.1; omega
                      have i6 : (tx xA n).length ≤ 200 := HI.out.mA.tx HN.out
                      have i7 : (n : Int) < (xA.length : Int) := by have := HN.out; omega
                      go_wp2_with fail
                      refine (take_calls2 w.heap.size q0 v0 xA _ n _ HI.out.s.h0 i5 HN.out).mono ?_
                      rintro e w8 ⟨At, ct, rfl, hlt8, hCt, v8, hq, hk⟩
                      have HS8 := Aside0.mk (HI.out.s.queue0 hq (fun _ h => h) hk)
                      obtain ⟨ox0, ox1, ox2, ox3⟩ := HI.out.s.other HX.out (by decide) (by decide)
                      obtain ⟨ow0, ow1, ow2, ow3⟩ := HI.out.s.other HI.out.w (by decide) (by decide)
                      have HX8 := Aside0.mk (KeepBut.blk hk.2.1 HX.out ox0 ox2)
                      have HW8 := Aside0.mk (KeepBut.blk hk.2.1 HI.out.w ow0 ow2)
                      have HB8 := Aside0.mk (HB.out.trans hk.1)
                      have HCt := Aside0.mk hCt
                      have HLt := Aside0.mk hlt8
                      have HCW8 : Aside0 (recol w7 col 1 gw = 0) := ⟨(recol_old (blk_lt HI.out.w)).trans HI.out.cw⟩
                      have HBW := Aside0.mk HI.out.bw
                      have HMA := Aside0.mk HI.out.mA
                      have HMB := Aside0.mk HI.out.mB
                      clear hq hk ox0 ox1 ox2 ox3 ow0 ow1 ow2 ow3 HI HX HB g0 k1 k2 hCt hlt8
                      obtain ⟨ad4, A1, c1, rfl, t0, t1, t2⟩ := N_text HS8.out.nA HN.out
                      have HX1 := Aside0.mk t1
                      have HX2 := Aside0.mk t2
                      clear t1 t2
                      have k1 := blk_cell HX8.out 1
                      have k2 := blk_cell HX8.out 2
                      have p5 := blk_cell HW8.out 5
                      simp at k1 k2 p5
                      go_wp2_with fail
                      refine (waymarkref01_Same.calls 2000 At ct (tx xA n) A1 c1 (tx xA n) true _ HCt.out HLt.out (Kd.F_now HX2.out) HX1.out (same01_law _ (by omega) 2000 (by omega))).mono ?_
                      rintro e w9 ⟨rfl, hd⟩
                      have HS9 := Aside0.mk (HS8.out.below hd.below)
                      have HX9 := Aside0.mk (blk_below HX8.out hd.below)
                      have HW9 := Aside0.mk (blk_below HW8.out hd.below)
                      have HB9 := Aside0.mk (below_step HB8.out hd.below)
                      have HSZ := Aside0.mk hd.below.size
                      have HGL := Aside0.mk (blk_lt HW8.out)
                      clear hd k1 k2 t0 p5 HX1 HX2 HCt HLt HS8 HX8 HB8 HW8
                      have k1 := blk_cell HX9.out 1
                      have k2 := blk_cell HX9.out 2
                      have p5 := blk_cell HW9.out 5
                      simp at k1 k2 p5
                      go_wp2_with fail
                      refine (waymarkref15_Without.calls _ (some ad4) cA xA (n : Int) (xA.eraseIdx n) _ (Kd.N_V HS9.out.nA) (without_law xA n i5 HN.out)).mono ?_
                      rintro e w10 ⟨v10, rfl, hn, hb⟩
                      have HS10 := Aside0.mk (HS9.out.listA hb hn (fun k hk => by
                        rcases hk with hk | hk
                        · exact .inl hk
                        · exact .inr hk))
                      have HX10 := Aside0.mk (blk_below HX9.out hb)
                      have HW10 := Aside0.mk (blk_below HW9.out hb)
                      have HB10 := Aside0.mk (below_step HB9.out hb)
                      have HCW10 : Aside0 (recol w9 (recol w7 col 1) 3 gw = 0) := ⟨(recol_old (blk_lt HW9.out)).trans HCW8.out⟩
                      obtain ⟨A7, c7, rfl⟩ := Kd.N_slice hn
                      clear hn hb k1 k2 p5 HS9 HX9 HW9 HB9
                      have p5 := blk_cell HW10.out 5
                      have f5 := blk_frozen HW10.out 5
                      simp at p5
                      have hxw : gx ≠ gw := by
                        intro e
                        have h1 := HX10.out
                        rw [e, HW10.out] at h1
                        simp at h1
                      have hwb := blk_set HW10.out 5 (.slice A7 (xA.eraseIdx n).length c7)
                      have HF : Aside0 ((fun wx : World => Aside0 (wx.heap[gx]? = some (.cells #[.int .i64 2, .int .i64 a, .int .i64 (n : Int), .slice A0 xb.length c0, .bool xu, .int .i64 xk0, .int .i64 xk1] 46 (0, 0))) ∧ Aside0 (Known w.heap.size wx g gw a b) ∧ Aside0 (Below w.heap.size w wx)) (w10.setCell ⟨gw, 5, none⟩ (.slice A7 (xA.eraseIdx n).length c7))) := ⟨⟨blk_far HX10.out (p := ⟨gw, 5, none⟩) hxw _⟩, ⟨up, m0, m1, q0, q1, _, _, _, _, xA.eraseIdx n, xB, _, HS10.out.far HW10.out (by decide) (by decide) (by decide) HCW10.out HBW.out 5 _, by simpa [wc] using hwb, HBW.out, HCW10.out, HMA.out.erase n, HMB.out⟩, ⟨HB10.out.setCell (p := ⟨gw, 5, none⟩) HBW.out _⟩⟩
                      clear hxw hwb HX10 HS10 HB10
                      go_wp2_with fail
                      go_meet
                      exact HF.out
                  · as_aux_lemma =>
                      have HTH := Aside0.mk hth
                      by_cases hn0 : xn < 0
                      · clear hth
                        have HTO : Aside0 (toF a b (some ⟨q0, 0, none⟩) (some ⟨q1, 0, none⟩) a = some ⟨q0, 0, none⟩) := ⟨by unfold toF; rw [if_pos rfl]⟩
                        have k1 := blk_cell HX.out 1
                        have k2 := blk_cell HX.out 2
                        simp at k1 k2
                        go_wp2_with fail
                        refine (to_yes g a b up m0 m1 ⟨q0, 0, none⟩ (some ⟨q1, 0, none⟩) a _ HI.out.s.cb).mono ?_
                        rw [HTO.out]
                        rintro e w7 ⟨rfl, rfl⟩

                        go_wp2_with fail
                        refine (take_bad w.heap.size q0 v0 xA _ xn _ HI.out.s.h0 HTH.out).mono ?_
                        rintro e w8 ⟨rfl, rfl⟩
                        have p5 := blk_cell HI.out.w 5
                        simp at p5

                        go_wp2_with fail
                        go_meet
                        exact ⟨HX, ⟨up, m0, m1, q0, q1, v0, v1, _, _, xA, xB, col, HI.out⟩, HB⟩
                      · have hn1 : (xA.length : Int) ≤ xn := by omega
                        have hn2 : 0 ≤ xn := by omega
                        clear hth hn0
                        have HTO : Aside0 (toF a b (some ⟨q0, 0, none⟩) (some ⟨q1, 0, none⟩) a = some ⟨q0, 0, none⟩) := ⟨by unfold toF; rw [if_pos rfl]⟩
                        have k1 := blk_cell HX.out 1
                        have k2 := blk_cell HX.out 2
                        simp at k1 k2
                        go_wp2_with fail
                        refine (to_yes g a b up m0 m1 ⟨q0, 0, none⟩ (some ⟨q1, 0, none⟩) a _ HI.out.s.cb).mono ?_
                        rw [HTO.out]
                        rintro e w7 ⟨rfl, rfl⟩

                        go_wp2_with fail
                        refine (take_bad w.heap.size q0 v0 xA _ xn _ HI.out.s.h0 HTH.out).mono ?_
                        rintro e w8 ⟨rfl, rfl⟩
                        have p5 := blk_cell HI.out.w 5
                        simp at p5

                        go_wp2_with fail
                        go_meet
                        exact ⟨HX, ⟨up, m0, m1, q0, q1, v0, v1, _, _, xA, xB, col, HI.out⟩, HB⟩
                · by_cases h1 : xo = b
                  · have h1 := h1.symm
                    subst h1
                    clear h0
                    have e0 : (b == a) = false := by have := HAB.out; simp; omega

                    by_cases hth : 0 ≤ xn ∧ xn < (xB.length : Int)
                    · obtain ⟨n, rfl⟩ := Int.eq_ofNat_of_zero_le hth.1
                      have HN : Aside0 (n < xB.length) := ⟨by omega⟩
                      clear hth
                      as_aux_lemma =>
                        have HTO : Aside0 (toF a b (some ⟨q0, 0, none⟩) (some ⟨q1, 0, none⟩) b = some ⟨q1, 0, none⟩) := ⟨by have := HAB.out; unfold toF; rw [if_neg (by omega), if_pos rfl]⟩
                        have k1 := blk_cell HX.out 1
                        have k2 := blk_cell HX.out 2
                        simp at k1 k2
                        go_wp2_with fail
                        refine (to_yes g a b up m0 m1 ⟨q0, 0, none⟩ (some ⟨q1, 0, none⟩) b _ HI.out.s.cb).mono ?_
                        rw [HTO.out]
                        rintro e w7 ⟨rfl, rfl⟩

                        have i5 : xB.length ≤ 1000 := by have := HI.out.mB.1; omega
                        have i6 : (tx xB n).length ≤ 200 := HI.out.mB.tx HN.out
                        have i7 : (n : Int) < (xB.length : Int) := by have := HN.out; omega
                        go_wp2_with fail
                        refine (take_calls2 w.heap.size q1 v1 xB _ n _ HI.out.s.h1 i5 HN.out).mono ?_
                        rintro e w8 ⟨At, ct, rfl, hlt8, hCt, v8, hq, hk⟩
                        have HS8 := Aside0.mk (HI.out.s.queue1 hq (fun _ h => h) hk)
                        obtain ⟨ox0, ox1, ox2, ox3⟩ := HI.out.s.other HX.out (by decide) (by decide)
                        obtain ⟨ow0, ow1, ow2, ow3⟩ := HI.out.s.other HI.out.w (by decide) (by decide)
                        have HX8 := Aside0.mk (KeepBut.blk hk.2.1 HX.out ox1 ox3)
                        have HW8 := Aside0.mk (KeepBut.blk hk.2.1 HI.out.w ow1 ow3)
                        have HB8 := Aside0.mk (HB.out.trans hk.1)
                        have HCt := Aside0.mk hCt
                        have HLt := Aside0.mk hlt8
                        have HCW8 : Aside0 (recol w7 col 2 gw = 0) := ⟨(recol_old (blk_lt HI.out.w)).trans HI.out.cw⟩
                        have HBW := Aside0.mk HI.out.bw
                        have HMA := Aside0.mk HI.out.mA
                        have HMB := Aside0.mk HI.out.mB
                        clear hq hk ox0 ox1 ox2 ox3 ow0 ow1 ow2 ow3 HI HX HB g0 k1 k2 hCt hlt8
                        obtain ⟨ad4, A1, c1, rfl, t0, t1, t2⟩ := N_text HS8.out.nB HN.out
                        have HX1 := Aside0.mk t1
                        have HX2 := Aside0.mk t2
                        clear t1 t2
                        have k1 := blk_cell HX8.out 1
                        have k2 := blk_cell HX8.out 2
                        have p6 := blk_cell HW8.out 6
                        simp at k1 k2 p6
                        go_wp2_with fail
                        refine (waymarkref01_Same.calls 2000 At ct (tx xB n) A1 c1 (tx xB n) true _ HCt.out HLt.out (Kd.F_now HX2.out) HX1.out (same01_law _ (by omega) 2000 (by omega))).mono ?_
                        rintro e w9 ⟨rfl, hd⟩
                        have HS9 := Aside0.mk (HS8.out.below hd.below)
                        have HX9 := Aside0.mk (blk_below HX8.out hd.below)
                        have HW9 := Aside0.mk (blk_below HW8.out hd.below)
                        have HB9 := Aside0.mk (below_step HB8.out hd.below)
                        have HSZ := Aside0.mk hd.below.size
                        have HGL := Aside0.mk (blk_lt HW8.out)
                        clear hd k1 k2 t0 p6 HX1 HX2 HCt HLt HS8 HX8 HB8 HW8
                        have k1 := blk_cell HX9.out 1
                        have k2 := blk_cell HX9.out 2
                        have p6 := blk_cell HW9.out 6
                        simp at k1 k2 p6
                        go_wp2_with fail
                        refine (waymarkref15_Without.calls _ (some ad4) cB xB (n : Int) (xB.eraseIdx n) _ (Kd.N_V HS9.out.nB) (without_law xB n i5 HN.out)).mono ?_
                        rintro e w10 ⟨v10, rfl, hn, hb⟩
                        have HS10 := Aside0.mk (HS9.out.listB hb hn (fun k hk => by
                          rcases hk with hk | hk
                          · exact .inl hk
                          · exact .inr hk))
                        have HX10 := Aside0.mk (blk_below HX9.out hb)
                        have HW10 := Aside0.mk (blk_below HW9.out hb)
                        have HB10 := Aside0.mk (below_step HB9.out hb)
                        have HCW10 : Aside0 (recol w9 (recol w7 col 2) 4 gw = 0) := ⟨(recol_old (blk_lt HW9.out)).trans HCW8.out⟩
                        obtain ⟨A7, c7, rfl⟩ := Kd.N_slice hn
                        clear hn hb k1 k2 p6 HS9 HX9 HW9 HB9
                        have p6 := blk_cell HW10.out 6
                        have f6 := blk_frozen HW10.out 6
                        simp at p6
                        have hxw : gx ≠ gw := by
                          intro e
                          have h1 := HX10.out
                          rw [e, HW10.out] at h1
                          simp at h1
                        have hwb := blk_set HW10.out 6 (.slice A7 (xB.eraseIdx n).length c7)
                        have HF : Aside0 ((fun wx : World => Aside0 (wx.heap[gx]? = some (.cells #[.int .i64 2, .int .i64 b, .int .i64 (n : Int), .slice A0 xb.length c0, .bool xu, .int .i64 xk0, .int .i64 xk1] 46 (0, 0))) ∧ Aside0 (Known w.heap.size wx g gw a b) ∧ Aside0 (Below w.heap.size w wx)) (w10.setCell ⟨gw, 6, none⟩ (.slice A7 (xB.eraseIdx n).length c7))) := ⟨⟨blk_far HX10.out (p := ⟨gw, 6, none⟩) hxw _⟩, ⟨up, m0, m1, q0, q1, _, _, _, _, xA, xB.eraseIdx n, _, HS10.out.far HW10.out (by decide) (by decide) (by decide) HCW10.out HBW.out 6 _, by simpa [wc] using hwb, HBW.out, HCW10.out, HMA.out, HMB.out.erase n⟩, ⟨HB10.out.setCell (p := ⟨gw, 6, none⟩) HBW.out _⟩⟩
                        clear hxw hwb HX10 HS10 HB10
                        go_wp2_with fail
                        go_meet
                        exact HF.out
                    · as_aux_lemma =>
                        have HTH := Aside0.mk hth
                        by_cases hn0 : xn < 0
                        · clear hth
                          have HTO : Aside0 (toF a b (some ⟨q0, 0, none⟩) (some ⟨q1, 0, none⟩) b = some ⟨q1, 0, none⟩) := ⟨by have := HAB.out; unfold toF; rw [if_neg (by omega), if_pos rfl]⟩
                          have k1 := blk_cell HX.out 1
                          have k2 := blk_cell HX.out 2
                          simp at k1 k2
                          go_wp2_with fail
                          refine (to_yes g a b up m0 m1 ⟨q0, 0, none⟩ (some ⟨q1, 0, none⟩) b _ HI.out.s.cb).mono ?_
                          rw [HTO.out]
                          rintro e w7 ⟨rfl, rfl⟩

                          go_wp2_with fail
                          refine (take_bad w.heap.size q1 v1 xB _ xn _ HI.out.s.h1 HTH.out).mono ?_
                          rintro e w8 ⟨rfl, rfl⟩
                          have p6 := blk_cell HI.out.w 6
                          simp at p6

                          go_wp2_with fail
                          go_meet
                          exact ⟨HX, ⟨up, m0, m1, q0, q1, v0, v1, _, _, xA, xB, col, HI.out⟩, HB⟩
                        · have hn1 : (xB.length : Int) ≤ xn := by omega
                          have hn2 : 0 ≤ xn := by omega
                          clear hth hn0
                          have HTO : Aside0 (toF a b (some ⟨q0, 0, none⟩) (some ⟨q1, 0, none⟩) b = some ⟨q1, 0, none⟩) := ⟨by have := HAB.out; unfold toF; rw [if_neg (by omega), if_pos rfl]⟩
                          have k1 := blk_cell HX.out 1
                          have k2 := blk_cell HX.out 2
                          simp at k1 k2
                          go_wp2_with fail
                          refine (to_yes g a b up m0 m1 ⟨q0, 0, none⟩ (some ⟨q1, 0, none⟩) b _ HI.out.s.cb).mono ?_
                          rw [HTO.out]
                          rintro e w7 ⟨rfl, rfl⟩

                          go_wp2_with fail
                          refine (take_bad w.heap.size q1 v1 xB _ xn _ HI.out.s.h1 HTH.out).mono ?_
                          rintro e w8 ⟨rfl, rfl⟩
                          have p6 := blk_cell HI.out.w 6
                          simp at p6

                          go_wp2_with fail
                          go_meet
                          exact ⟨HX, ⟨up, m0, m1, q0, q1, v0, v1, _, _, xA, xB, col, HI.out⟩, HB⟩
                  · have hxa := Aside0.mk h0
                    have hxb := Aside0.mk h1
                    clear h0 h1
                    as_aux_lemma =>
                      have HTO : Aside0 (toF a b (some ⟨q0, 0, none⟩) (some ⟨q1, 0, none⟩) xo = none) := ⟨by unfold toF; rw [if_neg (fun e => hxa.out e.symm), if_neg (fun e => hxb.out e.symm)]⟩
                      have e0 : (xo == a) = false := by have := hxa.out; simp [this]
                      have e1 : (xo == b) = false := by have := hxb.out; simp [this]
                      have k1 := blk_cell HX.out 1
                      have k2 := blk_cell HX.out 2
                      simp at k1 k2
                      go_wp2_with fail
                      refine (to_yes g a b up m0 m1 ⟨q0, 0, none⟩ (some ⟨q1, 0, none⟩) xo _ HI.out.s.cb).mono ?_
                      rw [HTO.out]
                      rintro e w7 ⟨rfl, rfl⟩
                      go_wp2_with fail
                      refine (take_none xn _).mono ?_
                      rintro e w8 ⟨rfl, rfl⟩
                      go_wp2_with fail
                      go_meet
                      exact ⟨HX, ⟨up, m0, m1, q0, q1, v0, v1, _, _, xA, xB, col, HI.out⟩, HB⟩
              · as_aux_lemma =>
                  go_wp2_with fail
                  go_meet
                  exact ⟨HX, HN, HB⟩
        case rest =>
          as_aux_lemma =>
            obtain ⟨HX, HN, HB⟩ := hcut

            obtain ⟨up, m0, m1, q0, q1, v0, v1, lA, lB, xA, xB, col, hi⟩ := HN.out
            obtain ⟨AA, cA, rfl⟩ := Kd.N_slice hi.s.nA
            obtain ⟨AB, cB, rfl⟩ := Kd.N_slice hi.s.nB
            have HI := Aside0.mk hi
            clear hi HN

            go_wp2_with fail
            refine (ends_yes g a b up m0 m1 ⟨q0, 0, none⟩ (some ⟨q1, 0, none⟩) _ HI.out.s.cb).mono ?_
            rintro e w7 ⟨rfl, hd⟩
            have HS7 := Aside0.mk (HI.out.s.below hd.below)
            have HX7 := Aside0.mk (blk_below HX.out hd.below)
            have HW7 := Aside0.mk (blk_below HI.out.w hd.below)
            have HB7 := Aside0.mk (below_step HB.out hd.below)
            have HBW := Aside0.mk HI.out.bw
            have HCW := Aside0.mk HI.out.cw
            have HMA := Aside0.mk HI.out.mA
            have HMB := Aside0.mk HI.out.mB
            clear hd HX HI HB
            have k1 := blk_cell HX7.out 1
            have p0 := blk_cell HW7.out 0
            have p1 := blk_cell HW7.out 1
            have p2 := blk_cell HW7.out 2
            have p3 := blk_cell HW7.out 3
            have p4 := blk_cell HW7.out 4
            have p5 := blk_cell HW7.out 5
            have p6 := blk_cell HW7.out 6
            simp at k1 p0 p1 p2 p3 p4 p5 p6
            go_upto_region 42 with (fail)
            go_region_held3 (fun W => (W.cell? ⟨gx, 1, none⟩ = some (.int .i64 xo)) ∧ (W.cell? ⟨gw, 0, none⟩ = some (.int .i64 a) ∧ W.cell? ⟨gw, 1, none⟩ = some (.int .i64 b) ∧ W.cell? ⟨gw, 2, none⟩ = some (.bool up) ∧ W.cell? ⟨gw, 3, none⟩ = some (.int .i64 m0) ∧ W.cell? ⟨gw, 4, none⟩ = some (.int .i64 m1) ∧ W.cell? ⟨gw, 5, none⟩ = some (.slice AA xA.length cA) ∧ W.cell? ⟨gw, 6, none⟩ = some (.slice AB xB.length cB)) ∧ Aside0 (CB W g a b up m0 m1 (some ⟨q0, 0, none⟩) (some ⟨q1, 0, none⟩)) ∧ Aside0 (Below w7.heap.size w7 W))
              ((first | (with_reducible assumption) | exact ⟨k1, ⟨p0, p1, p2, p3, p4, p5, p6⟩, ⟨HS7.out.cb⟩, ⟨below_drew (Below.refl _ _)⟩⟩ | exact ⟨k1, ⟨p0, p1, p2, p3, p4, p5, p6⟩, ⟨HS7.out.cb⟩, ⟨Below.refl _ _⟩⟩))
              (first
                | (go_at_call 7; (with_reducible refine (up_yes g a b up m0 m1 _ _ _ (cb8 (by with_reducible assumption))).mono ?_); rintro e w' ⟨rfl, rfl⟩)
                | (go_at_call 8; (with_reducible refine (cost_yes g a b up m0 m1 _ _ _ _ (cb8 (by with_reducible assumption))).mono ?_); rintro e w' ⟨rfl, rfl⟩)
                | (go_at_call 19; (with_reducible refine (rcost a b up m0 m1 _ _ _ _ _ _ _ _).mono ?_); rintro e w' ⟨rfl, hb⟩; have hS' := keep8 (by with_reducible assumption) hb))
            have HS8 := Aside0.mk (HS7.out.below hS'.2.2.2.out)
            have HX8 := Aside0.mk (blk_below HX7.out hS'.2.2.2.out)
            have HW8 := Aside0.mk (blk_below HW7.out hS'.2.2.2.out)
            have HB8 := Aside0.mk (below_step HB7.out hS'.2.2.2.out)
            clear hS' HS7 HX7 HW7 HB7 k1 p0 p1 p2 p3 p4 p5 p6
            go_upto_region 44 with (fail)
            refine wp_world (fun W => Aside0 (W.heap[gx]? = some (.cells #[.int .i64 xd, .int .i64 xo, .int .i64 xn, .slice A0 xb.length c0, .bool xu, .int .i64 xk0, .int .i64 xk1] 46 (0, 0))) ∧ Aside0 (W.heap[gw]? = some (.cells (Cb.wc a b up m0 m1 (.slice AA xA.length cA) (.slice AB xB.length cB)) 43 (0, 0))) ∧ Aside0 (St w.heap.size W g a b up m0 m1 q0 q1 v0 v1 (.slice AA xA.length cA) (.slice AB xB.length cB) xA xB xA xB col) ∧ Aside0 (Below w.heap.size w W)) ⟨HX8, HW8, HS8, HB8⟩ ?_
            clear HX8 HW8 HS8 HB8
            rintro w8 ⟨HX8, HW8, HS8, HB8⟩
            have HA1 : Aside0 (xA.length ≤ 1000) := ⟨by have := HMA.out.1; omega⟩
            have HA2 : Aside0 (∀ x ∈ xA, x.length ≤ 1000000) := ⟨fun x hx => Nat.le_trans (HMA.out.2 x hx) (by omega)⟩
            have HA3 : Aside0 (waymarkref15_Same.f 3000 xA xA = some true) := ⟨same15_law xA HA1.out HMA.out.2⟩
            have HB1 : Aside0 (xB.length ≤ 1000) := ⟨by have := HMB.out.1; omega⟩
            have HB2 : Aside0 (∀ x ∈ xB, x.length ≤ 1000000) := ⟨fun x hx => Nat.le_trans (HMB.out.2 x hx) (by omega)⟩
            have HB3 : Aside0 (waymarkref15_Same.f 3000 xB xB = some true) := ⟨same15_law xB HB1.out HMB.out.2⟩
            have p5 := blk_cell HW8.out 5
            have p6 := blk_cell HW8.out 6
            simp at p5 p6
            go_region_held3 (fun W => (W.cell? ⟨gw, 5, none⟩ = some (.slice AA xA.length cA) ∧ W.cell? ⟨gw, 6, none⟩ = some (.slice AB xB.length cB)) ∧ Aside0 (St w.heap.size W g a b up m0 m1 q0 q1 v0 v1 (.slice AA xA.length cA) (.slice AB xB.length cB) xA xB xA xB col) ∧ Aside0 (Below w8.heap.size w8 W))
              ((first | (with_reducible assumption) | exact ⟨⟨p5, p6⟩, ⟨HS8.out.below (below_drew (Below.refl _ _))⟩, ⟨below_drew (Below.refl _ _)⟩⟩ | exact ⟨⟨p5, p6⟩, HS8, ⟨Below.refl _ _⟩⟩))
              (first
                | (go_at_call 11; (with_reducible refine (to_a g a b up m0 m1 _ _ _ (st2 (by with_reducible assumption)).cb).mono ?_); rintro e w' ⟨rfl, rfl⟩)
                | (go_at_call 11; (with_reducible refine (to_b g a b up m0 m1 _ _ _ (st2 (by with_reducible assumption)).cb HAB.out).mono ?_); rintro e w' ⟨rfl, rfl⟩)
                | (go_at_call 21; (with_reducible refine (all_calls w.heap.size q0 v0 xA _ _ (st2 (by with_reducible assumption)).h0 HA1.out HA2.out).mono ?_); rintro e w' ⟨u, rfl, hu, hb⟩; obtain ⟨A5, c5, rfl⟩ := Kd.N_slice hu; have HU := Aside0.mk hu; have hS' := keep2 (by with_reducible assumption) hb; clear hu hb)
                | (go_at_call 21; (with_reducible refine (all_calls w.heap.size q1 v1 xB _ _ (st2 (by with_reducible assumption)).h1 HB1.out HB2.out).mono ?_); rintro e w' ⟨u, rfl, hu, hb⟩; obtain ⟨A5, c5, rfl⟩ := Kd.N_slice hu; have HU := Aside0.mk hu; have hS' := keep2 (by with_reducible assumption) hb; clear hu hb)
                | (go_at_call 20; (with_reducible refine (waymarkref15_Same.calls 3000 _ _ xA _ _ xA true _ (Kd.N_reads' HU.out).2.2 (Kd.N_reads' HU.out).2.1 (Kd.N_reads' (st2 (by with_reducible assumption)).nA).2.2 (Kd.N_reads' (st2 (by with_reducible assumption)).nA).2.1 HA3.out).mono ?_); rintro e w' ⟨rfl, hd⟩; have hS' := keep2 (by with_reducible assumption) hd.below; clear hd HU)
                | (go_at_call 20; (with_reducible refine (waymarkref15_Same.calls 3000 _ _ xB _ _ xB true _ (Kd.N_reads' HU.out).2.2 (Kd.N_reads' HU.out).2.1 (Kd.N_reads' (st2 (by with_reducible assumption)).nB).2.2 (Kd.N_reads' (st2 (by with_reducible assumption)).nB).2.1 HB3.out).mono ?_); rintro e w' ⟨rfl, hd⟩; have hS' := keep2 (by with_reducible assumption) hd.below; clear hd HU))
            all_goals
              have HK9 : Aside0 (Known w.heap.size _ g gw a b) := ⟨⟨up, m0, m1, q0, q1, v0, v1, _, _, xA, xB, col, hS'.2.1.out, blk_below HW8.out hS'.2.2.out, HBW.out, HCW.out, HMA.out, HMB.out⟩⟩
              have HB9 := Aside0.mk (below_step HB8.out hS'.2.2.out)
              clear hS' HX8 HW8 HS8 HB8 p5 p6
              go_wp2_with fail
              go_roundw
              case rel => exact ⟨k + 1, by go_num, ⟨by omega⟩, HK9, HB9⟩
              case measure => simp [intOf]; omega
    · obtain rfl : k = as_.length := by have := HK.out; omega
      go_wp2_with fail
      refine (awake_calls _).mono ?_
      rintro e w4 ⟨rfl, hb⟩
      have HB4 := Aside0.mk (below_step HB.out hb)
      clear hb
      go_wp2
      go_ret
      exact ⟨rfl, HB4.out⟩
end Go.Proofs.Ythimnnnfgangbaa.Cb
