/- The law PrefixTexts, for every input. -/
import Derived.Test.YtagpkphehkfjgaaDoorPxN
set_option linter.unusedVariables false
set_option linter.unusedSimpArgs false
namespace Go.Proofs.YtagpkphehkfjgaaDoor.Px
open Go.RowKit Go.Proofs.YtagpkphehkfjgaaDoorW.PrintWords Go.Proofs.YtagpkphehkfjgaaDoorW.PrintLast Go.Proofs.YtagpkphehkfjgaaDoorW.PrintMore
attribute [local go_sem high] eqA24
theorem rpd_same {l : List UInt8} {x n e y m : Nat} {ok : Bool} (h : PD l x n e) (k : RPD l y m ok) : y = x ∧ m = n ∧ ((ok = true ∧ e = 0) ∨ (ok = false ∧ e = 2)) := by
  rcases k with ⟨rfl, k⟩ | ⟨rfl, rfl, rfl, k⟩
  · obtain ⟨h1, h2, h3⟩ := PD.unique h k
    exact ⟨h1.symm, h2.symm, Or.inl ⟨rfl, h3⟩⟩
  · obtain ⟨h1, h2, h3⟩ := PD.unique h k
    exact ⟨h1.symm, h2.symm, Or.inr ⟨rfl, h3⟩⟩
theorem rd_same {l : List UInt8} {x e y : Nat} {ok : Bool} (h : AD l x e) (k : RD l y ok) : y = x ∧ ((ok = true ∧ e = 0) ∨ (ok = false ∧ e = 2)) := by
  rcases k with ⟨rfl, k⟩ | ⟨rfl, rfl, k⟩
  · obtain ⟨h1, h2⟩ := AD.unique h k
    exact ⟨h1.symm, Or.inl ⟨rfl, h2⟩⟩
  · obtain ⟨h1, h2⟩ := AD.unique h k
    exact ⟨h1.symm, Or.inr ⟨rfl, h2⟩⟩
set_option maxHeartbeats 3200000 in
set_option maxRecDepth 100000 in
theorem texts_any (p : Nat) (n : Int) (s : List UInt8) (w : World) (hg : Gl w) (hp : p < 4294967296) :
    Calls Tryd.prog 5 #[pv p n, Sv s] w fun e w' => e = .returned (.bool true) ∧ Below w.heap.size w w' := by
  have HG := Aside0.mk hg
  have HP := Aside0.mk hp
  clear hg hp
  by_cases hlong : 100 < s.length
  · have hq : (100 : Int) < (s.length : Int) := by omega
    clear hlong
    go_enter Tryd.func5, Tryd.ntmps5
    go_upto_region 1 with (fail)
    refine wp_world (Bx w w.heap.size p n) (bx_new w p n) ?_
    intro w1 HX
    have HB := Aside0.mk HX.2
    clear HX
    go_wp2_with fail
    refine (awake_calls _ (HG.out.below HB.out)).mono ?_
    rintro e w2 ⟨rfl, hb⟩
    have HB2 := Aside0.mk (below_step HB.out hb)
    clear hb HB
    go_wp2
    go_ret
    exact ⟨rfl, HB2.out⟩
  · have HS : Aside0 (s.length ≤ 100000) := ⟨by omega⟩
    have hq : ¬ (100 : Int) < (s.length : Int) := by omega
    clear hlong
    go_enter Tryd.func5, Tryd.ntmps5
    go_upto_region 1 with (fail)
    obtain ⟨gp, hgp⟩ : ∃ gp, w.heap.size = gp := ⟨_, rfl⟩
    rw [hgp]
    refine wp_world (Bx w gp p n) (by subst hgp; exact bx_new w p n) ?_
    clear hgp
    intro w1 HX
    have HX1 := Aside0.mk HX
    clear HX
    go_wp2_with fail
    refine (parse_calls s w1 HS.out (HG.out.below HX1.out.2)).mono ?_
    rintro e w2 ⟨⟨x, m, er, rfl, hpd⟩, hb⟩
    have HPD := Aside0.mk hpd
    have HX2 := Aside0.mk (HX1.out.below hb)
    clear hb HX1 hpd
    go_upto_region 4 with (fail)
    obtain ⟨g5, hg5⟩ : ∃ g5, w2.heap.size = g5 := ⟨_, rfl⟩
    rw [hg5]
    refine wp_world (fun W => Bx w gp p n W ∧ W.heap[g5]? = some (.cells #[.int .u32 x, .int .i64 m] 24 (0, 0))) (by
      subst hg5
      exact ⟨HX2.out.below (below_alloc (Below.refl _ _) _), blk_new w2 _⟩) ?_
    clear hg5 HX2
    rintro w3 ⟨hx, h5⟩
    have HX3 := Aside0.mk hx
    have H5 := Aside0.mk h5
    clear hx h5
    go_wp2_with fail
    refine (address_calls s w3 HS.out (HG.out.below HX3.out.2)).mono ?_
    rintro e w4 ⟨⟨y, ey, rfl, had⟩, hb⟩
    have HAD := Aside0.mk had
    have HX4 := Aside0.mk (HX3.out.below hb)
    have H54 := Aside0.mk (blk_below H5.out hb)
    clear hb HX3 H5 had
    go_wp2_with fail
    refine (rparse_calls s w4 HS.out).mono ?_
    rintro e w5 ⟨⟨x2, m2, ok, rfl, hrp⟩, hb⟩
    obtain ⟨rfl, rfl, hok⟩ := rpd_same HPD.out hrp
    have HOK := Aside0.mk hok
    have HX5 := Aside0.mk (HX4.out.below hb)
    have H55 := Aside0.mk (blk_below H54.out hb)
    clear hb HX4 H54 hrp hok HPD
    go_upto_region 6 with (fail)
    obtain ⟨g9, hg9⟩ : ∃ g9, w5.heap.size = g9 := ⟨_, rfl⟩
    rw [hg9]
    refine wp_world (fun W => Bx w gp p n W ∧ W.heap[g5]? = some (.cells #[.int .u32 x2, .int .i64 m2] 24 (0, 0)) ∧ W.heap[g9]? = some (.cells #[.int .u32 x2, .int .i64 m2] 24 (0, 0))) (by
      subst hg9
      exact ⟨HX5.out.below (below_alloc (Below.refl _ _) _), blk_alloc H55.out _, blk_new w5 _⟩) ?_
    clear hg9 HX5 H55
    rintro w6 ⟨hx, h5, h9⟩
    have HX6 := Aside0.mk hx
    have H56 := Aside0.mk h5
    have H96 := Aside0.mk h9
    clear hx h5 h9
    go_wp2_with fail
    refine (raddress_calls s w6 HS.out).mono ?_
    rintro e w7 ⟨⟨y2, is, rfl, hrd⟩, hb⟩
    obtain ⟨rfl, his⟩ := rd_same HAD.out hrd
    have HIS := Aside0.mk his
    have HX7 := Aside0.mk (HX6.out.below hb)
    have H57 := Aside0.mk (blk_below H56.out hb)
    have H97 := Aside0.mk (blk_below H96.out hb)
    clear hb HX6 H56 H96 hrd his HAD
    go_upto_region 7 with (fail)
    go_cut [74] (fun v74 wx => v74 = .bool false ∧ Aside0 (Bx w gp p n wx))
    case first =>
      have a0 := pc0 H57.out
      have a1 := pc1 H57.out
      have b0 := pc0 H97.out
      have b1 := pc1 H97.out
      have hq2 := eqb_self x2 m2
      rcases HOK.out with ⟨rfl, rfl⟩ | ⟨rfl, rfl⟩ <;> rcases HIS.out with ⟨rfl, rfl⟩ | ⟨rfl, rfl⟩
      all_goals
        clear HOK HIS
        go_wp2_with fail
        go_meet
        exact ⟨rfl, HX7⟩
    case rest =>
      clear HX7 H57 H97
      obtain ⟨rfl, HX⟩ := hcut
      clear HOK HIS
      have k0 := HX.out.c0
      have k1 := HX.out.c1
      go_wp2_with fail
      refine (text_calls p n _ HP.out (HG.out.below HX.out.2)).mono ?_
      rintro e w8 ⟨⟨tx, et, rfl, htd⟩, hb⟩
      have HX8 := Aside0.mk (HX.out.below hb)
      clear hb HX k0 k1
      have k0 := HX8.out.c0
      have k1 := HX8.out.c1
      rcases htd with ⟨hm, rfl, rfl⟩ | ⟨hm, rfl, rfl⟩
      · have HM : Aside0 (decide (May p n) = true) := ⟨decide_eq_true hm⟩
        obtain ⟨k, rfl⟩ := Int.eq_ofNat_of_zero_le hm.1
        have HK : Aside0 (k ≤ 32) := ⟨by have := hm.2.1; omega⟩
        have HT : Aside0 (ptext p (Int.toNat (k : Int)) = ptext p k) := ⟨rfl⟩
        rw [HT.out]
        have HPD : Aside0 (PD (ptext p k) p k 0) := ⟨Or.inl ⟨rfl, HP.out, hm, rfl⟩⟩
        have HTL : Aside0 ((ptext p k).length ≤ 100000) := ⟨by
          have h1 := dotted_len HP.out
          have h2 := dd_len2 HK.out
          unfold ptext
          simp only [List.length_append, List.length_cons]
          omega⟩
        clear hm HT
        go_wp2_with fail
        refine (rmay_calls p k _ HP.out).mono ?_
        rw [HM.out]
        rintro e w9 ⟨rfl, hb⟩
        have HX9 := Aside0.mk (HX8.out.below hb)
        clear hb HX8 k0 k1
        go_wp2_with fail
        refine (parse_calls (ptext p k) w9 HTL.out (HG.out.below HX9.out.2)).mono ?_
        rintro e w10 ⟨⟨x3, m3, e3, rfl, hpd⟩, hb⟩
        obtain ⟨rfl, rfl, rfl⟩ := PD.unique hpd HPD.out
        have HX10 := Aside0.mk (HX9.out.below hb)
        clear hb HX9 hpd
        go_upto_region 13 with (fail)
        obtain ⟨gy, hgy⟩ : ∃ gy, w10.heap.size = gy := ⟨_, rfl⟩
        rw [hgy]
        refine wp_world (fun W => Bx w gp x3 m3 W ∧ W.heap[gy]? = some (.cells #[.int .u32 x3, .int .i64 m3] 24 (0, 0))) (by
          subst hgy
          exact ⟨HX10.out.below (below_alloc (Below.refl _ _) _), blk_new w10 _⟩) ?_
        clear hgy HX10
        rintro w11 ⟨hx, hy⟩
        have HX11 := Aside0.mk hx
        have HY11 := Aside0.mk hy
        clear hx hy
        have k0 := HX11.out.c0
        have k1 := HX11.out.c1
        go_wp2_with fail
        refine (rtext_calls x3 m3 _ HP.out (by have := HK.out; omega)).mono ?_
        rintro e w12 ⟨rfl, hb⟩
        have HX12 := Aside0.mk (HX11.out.below hb)
        have HY12 := Aside0.mk (blk_below HY11.out hb)
        clear hb HX11 HY11 k0 k1
        have k0 := HX12.out.c0
        have k1 := HX12.out.c1
        have y0 := pc0 HY12.out
        have y1 := pc1 HY12.out
        have hq2 := eqb_self x3 m3
        have hq3 : (ptext x3 m3 == ptext x3 m3) = true := by simp
        go_wp2_with fail
        refine (awake_calls _ (HG.out.below HX12.out.2)).mono ?_
        rintro e w13 ⟨rfl, hb⟩
        have HB13 := Aside0.mk (below_step HX12.out.2 hb)
        clear hb HX12 HY12 k0 k1 y0 y1
        go_wp2
        go_ret
        exact ⟨rfl, HB13.out⟩
      · have HM : Aside0 (decide (May p n) = false) := ⟨decide_eq_false hm⟩
        clear hm
        go_wp2_with fail
        refine (rmay_calls p n _ HP.out).mono ?_
        rw [HM.out]
        rintro e w9 ⟨rfl, hb⟩
        have HX9 := Aside0.mk (HX8.out.below hb)
        clear hb HX8 k0 k1
        go_wp2_with fail
        refine (awake_calls _ (HG.out.below HX9.out.2)).mono ?_
        rintro e w10 ⟨rfl, hb⟩
        have HB10 := Aside0.mk (below_step HX9.out.2 hb)
        clear hb HX9
        go_wp2
        go_ret
        exact ⟨rfl, HB10.out⟩
theorem texts_str (p : Nat) (n : Int) (s : ByteArray) (w : World) (hg : Gl w) (hp : p < 4294967296) :
    Calls Tryd.prog 5 #[pv p n, .string s] w fun e w' => e = .returned (.bool true) ∧ Below w.heap.size w w' := by
  rw [sv_data s]
  exact texts_any p n s.data.toList w hg hp
end Go.Proofs.YtagpkphehkfjgaaDoor.Px
