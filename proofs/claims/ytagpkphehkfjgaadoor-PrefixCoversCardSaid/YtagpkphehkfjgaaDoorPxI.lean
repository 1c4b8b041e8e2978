/- The law PrefixCovers, for every input. -/
import Derived.Test.YtagpkphehkfjgaaDoorPxH
set_option linter.unusedVariables false
set_option linter.unusedSimpArgs false
namespace Go.Proofs.YtagpkphehkfjgaaDoor.Px
open Go.RowKit Go.Proofs.YtagpkphehkfjgaaDoorW.PrintWords Go.Proofs.YtagpkphehkfjgaaDoorW.PrintLast Go.Proofs.YtagpkphehkfjgaaDoorW.PrintMore
attribute [local go_sem high] eqA24
/-- Three structs of the call's own. -/
structure W3 (w : World) (gp gq gr : Nat) (p0 : Nat) (n0 : Int) (p1 : Nat) (n1 : Int) (p2 : Nat) (n2 : Int) (W : World) : Prop where
  p : W.heap[gp]? = some (.cells #[.int .u32 p0, .int .i64 n0] 24 (0, 0))
  q : W.heap[gq]? = some (.cells #[.int .u32 p1, .int .i64 n1] 24 (0, 0))
  r : W.heap[gr]? = some (.cells #[.int .u32 p2, .int .i64 n2] 24 (0, 0))
  b : Below w.heap.size w W
theorem W3.below {w W W' : World} {gp gq gr p0 p1 p2 : Nat} {n0 n1 n2 : Int} (h : W3 w gp gq gr p0 n0 p1 n1 p2 n2 W) (hb : Below W.heap.size W W') : W3 w gp gq gr p0 n0 p1 n1 p2 n2 W' :=
  ⟨blk_below h.p hb, blk_below h.q hb, blk_below h.r hb, below_step h.b hb⟩
theorem W3.cells {w W : World} {gp gq gr p0 p1 p2 : Nat} {n0 n1 n2 : Int} (h : W3 w gp gq gr p0 n0 p1 n1 p2 n2 W) : (W.cell? ⟨gp, 0, none⟩ = some (.int .u32 p0) ∧ W.cell? ⟨gp, 1, none⟩ = some (.int .i64 n0)) ∧ (W.cell? ⟨gq, 0, none⟩ = some (.int .u32 p1) ∧ W.cell? ⟨gq, 1, none⟩ = some (.int .i64 n1)) ∧ W.cell? ⟨gr, 0, none⟩ = some (.int .u32 p2) ∧ W.cell? ⟨gr, 1, none⟩ = some (.int .i64 n2) :=
  ⟨⟨pc0 h.p, pc1 h.p⟩, ⟨pc0 h.q, pc1 h.q⟩, pc0 h.r, pc1 h.r⟩
set_option maxHeartbeats 3200000 in
set_option maxRecDepth 100000 in
theorem covers_any (p0 : Nat) (n0 : Int) (p1 : Nat) (n1 : Int) (p2 : Nat) (n2 : Int) (a : Nat) (w : World) (hg : Gl w) (h0 : p0 < 4294967296) (h1 : p1 < 4294967296) (h2 : p2 < 4294967296) (ha : a < 4294967296) :
    Calls Tryd.prog 3 #[.agg #[.int .u32 p0, .int .i64 n0, .int .u32 p1, .int .i64 n1, .int .u32 p2, .int .i64 n2], .int .u32 a] w fun e w' => e = .returned (.bool true) ∧ Below w.heap.size w w' := by
  have HG := Aside0.mk hg
  have H0 := Aside0.mk h0
  have H1 := Aside0.mk h1
  have H2 := Aside0.mk h2
  have HA := Aside0.mk ha
  clear hg h0 h1 h2 ha
  go_enter Tryd.func3, Tryd.ntmps3
  go_upto_region 1 with (fail)
  go_cut [5, 6, 7] (fun v5 v6 v7 wx => ∃ gp gq gr, v5 = .pointer (some ⟨gp, 0, none⟩) ∧ v6 = .pointer (some ⟨gq, 0, none⟩) ∧ v7 = .pointer (some ⟨gr, 0, none⟩) ∧ Aside0 (W3 w gp gq gr p0 n0 p1 n1 p2 n2 wx))
  case first =>
    go_region
    all_goals
      go_wp2_with fail
      go_meet
      exact ⟨_, _, _, rfl, rfl, rfl, ⟨⟨by first | exact (three _ _ (by simp) _ _ _).1 | exact (three _ _ (by simp) _ _ _).2.1 | exact (three _ _ (by simp) _ _ _).2.2, by first | exact (three _ _ (by simp) _ _ _).1 | exact (three _ _ (by simp) _ _ _).2.1 | exact (three _ _ (by simp) _ _ _).2.2, by first | exact (three _ _ (by simp) _ _ _).1 | exact (three _ _ (by simp) _ _ _).2.1 | exact (three _ _ (by simp) _ _ _).2.2, below_drew (below_alloc (below_alloc (below_alloc (below_alloc (Below.refl _ _) _) _) _) _)⟩⟩⟩
  case rest =>
    obtain ⟨gp, gq, gr, rfl, rfl, rfl, HW⟩ := hcut
    have HG1 := Aside0.mk (HG.out.below HW.out.b)
    go_upto_region 2 with (fail)
    go_cut [27] (fun v27 wx => v27 = .bool false ∧ Aside0 (W3 w gp gq gr p0 n0 p1 n1 p2 n2 wx))
    case first =>
      by_cases a1 : Cov p0 n0 p1 n1
      · have D1 : Aside0 (decide (Cov p0 n0 p1 n1) = true) := ⟨decide_eq_true a1⟩
        have AD1 := Aside0.mk a1
        clear a1
        obtain ⟨⟨c0, c1⟩, ⟨c2, c3⟩, c4, c5⟩ := HW.out.cells
        go_wp2_with fail
        refine (covers_calls p0 n0 p1 n1 _ H0.out H1.out).mono ?_
        rw [D1.out]
        rintro e w102 ⟨rfl, hb⟩
        have HW2 := Aside0.mk (HW.out.below hb)
        clear hb HW c0 c1 c2 c3 c4 c5
        by_cases a3 : Cov p1 n1 p2 n2
        · have D3 : Aside0 (decide (Cov p1 n1 p2 n2) = true) := ⟨decide_eq_true a3⟩
          have AD3 := Aside0.mk a3
          clear a3
          obtain ⟨⟨c0, c1⟩, ⟨c2, c3⟩, c4, c5⟩ := HW2.out.cells
          go_wp2_with fail
          refine (covers_calls p1 n1 p2 n2 _ H1.out H2.out).mono ?_
          rw [D3.out]
          rintro e w104 ⟨rfl, hb⟩
          have HW4 := Aside0.mk (HW2.out.below hb)
          clear hb HW2 c0 c1 c2 c3 c4 c5
          have D5 : Aside0 (decide (Cov p0 n0 p2 n2) = true) := ⟨decide_eq_true (cov_trans AD1.out AD3.out)⟩
          obtain ⟨⟨c0, c1⟩, ⟨c2, c3⟩, c4, c5⟩ := HW4.out.cells
          go_wp2_with fail
          refine (covers_calls p0 n0 p2 n2 _ H0.out H2.out).mono ?_
          rw [D5.out]
          rintro e w106 ⟨rfl, hb⟩
          have HW6 := Aside0.mk (HW4.out.below hb)
          clear hb HW4 c0 c1 c2 c3 c4 c5
          obtain ⟨⟨c0, c1⟩, ⟨c2, c3⟩, c4, c5⟩ := HW6.out.cells
          go_wp2_with fail
          go_meet
          exact ⟨rfl, HW6⟩
        · have D3 : Aside0 (decide (Cov p1 n1 p2 n2) = false) := ⟨decide_eq_false a3⟩
          have AD3 := Aside0.mk a3
          clear a3
          obtain ⟨⟨c0, c1⟩, ⟨c2, c3⟩, c4, c5⟩ := HW2.out.cells
          go_wp2_with fail
          refine (covers_calls p1 n1 p2 n2 _ H1.out H2.out).mono ?_
          rw [D3.out]
          rintro e w107 ⟨rfl, hb⟩
          have HW7 := Aside0.mk (HW2.out.below hb)
          clear hb HW2 c0 c1 c2 c3 c4 c5
          obtain ⟨⟨c0, c1⟩, ⟨c2, c3⟩, c4, c5⟩ := HW7.out.cells
          go_wp2_with fail
          go_meet
          exact ⟨rfl, HW7⟩
      · have D1 : Aside0 (decide (Cov p0 n0 p1 n1) = false) := ⟨decide_eq_false a1⟩
        have AD1 := Aside0.mk a1
        clear a1
        obtain ⟨⟨c0, c1⟩, ⟨c2, c3⟩, c4, c5⟩ := HW.out.cells
        go_wp2_with fail
        refine (covers_calls p0 n0 p1 n1 _ H0.out H1.out).mono ?_
        rw [D1.out]
        rintro e w108 ⟨rfl, hb⟩
        have HW8 := Aside0.mk (HW.out.below hb)
        clear hb HW c0 c1 c2 c3 c4 c5
        obtain ⟨⟨c0, c1⟩, ⟨c2, c3⟩, c4, c5⟩ := HW8.out.cells
        go_wp2_with fail
        go_meet
        exact ⟨rfl, HW8⟩
    case rest =>
      clear HW
      obtain ⟨rfl, HW9⟩ := hcut
      go_upto_region 4 with (fail)
      go_cut [47] (fun v47 wx => v47 = .bool false ∧ Aside0 (W3 w gp gq gr p0 n0 p1 n1 p2 n2 wx))
      case first =>
        by_cases a10 : Wit p0 n0 a
        · have D10 : Aside0 (decide (Wit p0 n0 a) = true) := ⟨decide_eq_true a10⟩
          have AD10 := Aside0.mk a10
          clear a10
          obtain ⟨⟨c0, c1⟩, ⟨c2, c3⟩, c4, c5⟩ := HW9.out.cells
          go_wp2_with fail
          refine (within_calls p0 n0 a _ H0.out HA.out).mono ?_
          rw [D10.out]
          rintro e w111 ⟨rfl, hb⟩
          have HW11 := Aside0.mk (HW9.out.below hb)
          clear hb HW9 c0 c1 c2 c3 c4 c5
          by_cases a12 : Wit p1 n1 a
          · have D12 : Aside0 (decide (Wit p1 n1 a) = true) := ⟨decide_eq_true a12⟩
            have AD12 := Aside0.mk a12
            clear a12
            obtain ⟨⟨c0, c1⟩, ⟨c2, c3⟩, c4, c5⟩ := HW11.out.cells
            go_wp2_with fail
            refine (within_calls p1 n1 a _ H1.out HA.out).mono ?_
            rw [D12.out]
            rintro e w113 ⟨rfl, hb⟩
            have HW13 := Aside0.mk (HW11.out.below hb)
            clear hb HW11 c0 c1 c2 c3 c4 c5
            by_cases a14 : Cov p0 n0 p1 n1
            · have D14 : Aside0 (decide (Cov p0 n0 p1 n1) = true) := ⟨decide_eq_true a14⟩
              have AD14 := Aside0.mk a14
              clear a14
              obtain ⟨⟨c0, c1⟩, ⟨c2, c3⟩, c4, c5⟩ := HW13.out.cells
              go_wp2_with fail
              refine (covers_calls p0 n0 p1 n1 _ H0.out H1.out).mono ?_
              rw [D14.out]
              rintro e w115 ⟨rfl, hb⟩
              have HW15 := Aside0.mk (HW13.out.below hb)
              clear hb HW13 c0 c1 c2 c3 c4 c5
              obtain ⟨⟨c0, c1⟩, ⟨c2, c3⟩, c4, c5⟩ := HW15.out.cells
              go_wp2_with fail
              go_meet
              exact ⟨rfl, HW15⟩
            · have D14 : Aside0 (decide (Cov p0 n0 p1 n1) = false) := ⟨decide_eq_false a14⟩
              have AD14 := Aside0.mk a14
              clear a14
              obtain ⟨⟨c0, c1⟩, ⟨c2, c3⟩, c4, c5⟩ := HW13.out.cells
              go_wp2_with fail
              refine (covers_calls p0 n0 p1 n1 _ H0.out H1.out).mono ?_
              rw [D14.out]
              rintro e w116 ⟨rfl, hb⟩
              have HW16 := Aside0.mk (HW13.out.below hb)
              clear hb HW13 c0 c1 c2 c3 c4 c5
              have D17 : Aside0 (decide (Cov p1 n1 p0 n0) = true) := ⟨decide_eq_true (wit_cov AD12.out AD10.out (Or.elim (Int.le_total n0 n1) (fun h => absurd (wit_cov AD10.out AD12.out h) AD14.out) id))⟩
              obtain ⟨⟨c0, c1⟩, ⟨c2, c3⟩, c4, c5⟩ := HW16.out.cells
              go_wp2_with fail
              refine (covers_calls p1 n1 p0 n0 _ H1.out H0.out).mono ?_
              rw [D17.out]
              rintro e w118 ⟨rfl, hb⟩
              have HW18 := Aside0.mk (HW16.out.below hb)
              clear hb HW16 c0 c1 c2 c3 c4 c5
              obtain ⟨⟨c0, c1⟩, ⟨c2, c3⟩, c4, c5⟩ := HW18.out.cells
              go_wp2_with fail
              go_meet
              exact ⟨rfl, HW18⟩
          · have D12 : Aside0 (decide (Wit p1 n1 a) = false) := ⟨decide_eq_false a12⟩
            have AD12 := Aside0.mk a12
            clear a12
            obtain ⟨⟨c0, c1⟩, ⟨c2, c3⟩, c4, c5⟩ := HW11.out.cells
            go_wp2_with fail
            refine (within_calls p1 n1 a _ H1.out HA.out).mono ?_
            rw [D12.out]
            rintro e w119 ⟨rfl, hb⟩
            have HW19 := Aside0.mk (HW11.out.below hb)
            clear hb HW11 c0 c1 c2 c3 c4 c5
            obtain ⟨⟨c0, c1⟩, ⟨c2, c3⟩, c4, c5⟩ := HW19.out.cells
            go_wp2_with fail
            go_meet
            exact ⟨rfl, HW19⟩
        · have D10 : Aside0 (decide (Wit p0 n0 a) = false) := ⟨decide_eq_false a10⟩
          have AD10 := Aside0.mk a10
          clear a10
          obtain ⟨⟨c0, c1⟩, ⟨c2, c3⟩, c4, c5⟩ := HW9.out.cells
          go_wp2_with fail
          refine (within_calls p0 n0 a _ H0.out HA.out).mono ?_
          rw [D10.out]
          rintro e w120 ⟨rfl, hb⟩
          have HW20 := Aside0.mk (HW9.out.below hb)
          clear hb HW9 c0 c1 c2 c3 c4 c5
          obtain ⟨⟨c0, c1⟩, ⟨c2, c3⟩, c4, c5⟩ := HW20.out.cells
          go_wp2_with fail
          go_meet
          exact ⟨rfl, HW20⟩
      case rest =>
        clear HW9
        obtain ⟨rfl, HW21⟩ := hcut
        go_upto_region 6 with (fail)
        go_cut [61] (fun v61 wx => v61 = .bool false ∧ Aside0 (W3 w gp gq gr p0 n0 p1 n1 p2 n2 wx))
        case first =>
          by_cases a22 : Cov p0 n0 p1 n1
          · have D22 : Aside0 (decide (Cov p0 n0 p1 n1) = true) := ⟨decide_eq_true a22⟩
            have AD22 := Aside0.mk a22
            clear a22
            obtain ⟨⟨c0, c1⟩, ⟨c2, c3⟩, c4, c5⟩ := HW21.out.cells
            go_wp2_with fail
            refine (covers_calls p0 n0 p1 n1 _ H0.out H1.out).mono ?_
            rw [D22.out]
            rintro e w123 ⟨rfl, hb⟩
            have HW23 := Aside0.mk (HW21.out.below hb)
            clear hb HW21 c0 c1 c2 c3 c4 c5
            by_cases a24 : Wit p1 n1 a
            · have D24 : Aside0 (decide (Wit p1 n1 a) = true) := ⟨decide_eq_true a24⟩
              have AD24 := Aside0.mk a24
              clear a24
              obtain ⟨⟨c0, c1⟩, ⟨c2, c3⟩, c4, c5⟩ := HW23.out.cells
              go_wp2_with fail
              refine (within_calls p1 n1 a _ H1.out HA.out).mono ?_
              rw [D24.out]
              rintro e w125 ⟨rfl, hb⟩
              have HW25 := Aside0.mk (HW23.out.below hb)
              clear hb HW23 c0 c1 c2 c3 c4 c5
              have D26 : Aside0 (decide (Wit p0 n0 a) = true) := ⟨decide_eq_true (cov_wit AD22.out AD24.out)⟩
              obtain ⟨⟨c0, c1⟩, ⟨c2, c3⟩, c4, c5⟩ := HW25.out.cells
              go_wp2_with fail
              refine (within_calls p0 n0 a _ H0.out HA.out).mono ?_
              rw [D26.out]
              rintro e w127 ⟨rfl, hb⟩
              have HW27 := Aside0.mk (HW25.out.below hb)
              clear hb HW25 c0 c1 c2 c3 c4 c5
              obtain ⟨⟨c0, c1⟩, ⟨c2, c3⟩, c4, c5⟩ := HW27.out.cells
              go_wp2_with fail
              go_meet
              exact ⟨rfl, HW27⟩
            · have D24 : Aside0 (decide (Wit p1 n1 a) = false) := ⟨decide_eq_false a24⟩
              have AD24 := Aside0.mk a24
              clear a24
              obtain ⟨⟨c0, c1⟩, ⟨c2, c3⟩, c4, c5⟩ := HW23.out.cells
              go_wp2_with fail
              refine (within_calls p1 n1 a _ H1.out HA.out).mono ?_
              rw [D24.out]
              rintro e w128 ⟨rfl, hb⟩
              have HW28 := Aside0.mk (HW23.out.below hb)
              clear hb HW23 c0 c1 c2 c3 c4 c5
              obtain ⟨⟨c0, c1⟩, ⟨c2, c3⟩, c4, c5⟩ := HW28.out.cells
              go_wp2_with fail
              go_meet
              exact ⟨rfl, HW28⟩
          · have D22 : Aside0 (decide (Cov p0 n0 p1 n1) = false) := ⟨decide_eq_false a22⟩
            have AD22 := Aside0.mk a22
            clear a22
            obtain ⟨⟨c0, c1⟩, ⟨c2, c3⟩, c4, c5⟩ := HW21.out.cells
            go_wp2_with fail
            refine (covers_calls p0 n0 p1 n1 _ H0.out H1.out).mono ?_
            rw [D22.out]
            rintro e w129 ⟨rfl, hb⟩
            have HW29 := Aside0.mk (HW21.out.below hb)
            clear hb HW21 c0 c1 c2 c3 c4 c5
            obtain ⟨⟨c0, c1⟩, ⟨c2, c3⟩, c4, c5⟩ := HW29.out.cells
            go_wp2_with fail
            go_meet
            exact ⟨rfl, HW29⟩
        case rest =>
          clear HW21
          obtain ⟨rfl, HW30⟩ := hcut
          by_cases a31 : Cov p0 n0 p1 n1
          · have D31 : Aside0 (decide (Cov p0 n0 p1 n1) = true) := ⟨decide_eq_true a31⟩
            have AD31 := Aside0.mk a31
            clear a31
            obtain ⟨⟨c0, c1⟩, ⟨c2, c3⟩, c4, c5⟩ := HW30.out.cells
            go_wp2_with fail
            refine (covers_calls p0 n0 p1 n1 _ H0.out H1.out).mono ?_
            rw [D31.out]
            rintro e w132 ⟨rfl, hb⟩
            have HW32 := Aside0.mk (HW30.out.below hb)
            clear hb HW30 c0 c1 c2 c3 c4 c5
            by_cases a33 : Cov p1 n1 p0 n0
            · have D33 : Aside0 (decide (Cov p1 n1 p0 n0) = true) := ⟨decide_eq_true a33⟩
              have AD33 := Aside0.mk a33
              clear a33
              obtain ⟨⟨c0, c1⟩, ⟨c2, c3⟩, c4, c5⟩ := HW32.out.cells
              go_wp2_with fail
              refine (covers_calls p1 n1 p0 n0 _ H1.out H0.out).mono ?_
              rw [D33.out]
              rintro e w134 ⟨rfl, hb⟩
              have HW34 := Aside0.mk (HW32.out.below hb)
              clear hb HW32 c0 c1 c2 c3 c4 c5
              have hq : eqb (p0 : Int) n0 (p1 : Int) n1 = true := by
                obtain ⟨e1, e2⟩ := cov_anti AD31.out AD33.out
                simp [eqb, e1, e2]
              obtain ⟨⟨c0, c1⟩, ⟨c2, c3⟩, c4, c5⟩ := HW34.out.cells
              go_wp2_with fail
              refine (awake_calls _ (HG.out.below HW34.out.b)).mono ?_
              rintro e w9 ⟨rfl, hb⟩
              have HB9 := Aside0.mk (below_step HW34.out.b hb)
              clear hb c0 c1 c2 c3 c4 c5 HW34
              go_wp2
              go_ret
              exact ⟨rfl, HB9.out⟩
            · have D33 : Aside0 (decide (Cov p1 n1 p0 n0) = false) := ⟨decide_eq_false a33⟩
              have AD33 := Aside0.mk a33
              clear a33
              obtain ⟨⟨c0, c1⟩, ⟨c2, c3⟩, c4, c5⟩ := HW32.out.cells
              go_wp2_with fail
              refine (covers_calls p1 n1 p0 n0 _ H1.out H0.out).mono ?_
              rw [D33.out]
              rintro e w135 ⟨rfl, hb⟩
              have HW35 := Aside0.mk (HW32.out.below hb)
              clear hb HW32 c0 c1 c2 c3 c4 c5
              obtain ⟨⟨c0, c1⟩, ⟨c2, c3⟩, c4, c5⟩ := HW35.out.cells
              go_wp2_with fail
              refine (awake_calls _ (HG.out.below HW35.out.b)).mono ?_
              rintro e w9 ⟨rfl, hb⟩
              have HB9 := Aside0.mk (below_step HW35.out.b hb)
              clear hb c0 c1 c2 c3 c4 c5 HW35
              go_wp2
              go_ret
              exact ⟨rfl, HB9.out⟩
          · have D31 : Aside0 (decide (Cov p0 n0 p1 n1) = false) := ⟨decide_eq_false a31⟩
            have AD31 := Aside0.mk a31
            clear a31
            obtain ⟨⟨c0, c1⟩, ⟨c2, c3⟩, c4, c5⟩ := HW30.out.cells
            go_wp2_with fail
            refine (covers_calls p0 n0 p1 n1 _ H0.out H1.out).mono ?_
            rw [D31.out]
            rintro e w136 ⟨rfl, hb⟩
            have HW36 := Aside0.mk (HW30.out.below hb)
            clear hb HW30 c0 c1 c2 c3 c4 c5
            obtain ⟨⟨c0, c1⟩, ⟨c2, c3⟩, c4, c5⟩ := HW36.out.cells
            go_wp2_with fail
            refine (awake_calls _ (HG.out.below HW36.out.b)).mono ?_
            rintro e w9 ⟨rfl, hb⟩
            have HB9 := Aside0.mk (below_step HW36.out.b hb)
            clear hb c0 c1 c2 c3 c4 c5 HW36
            go_wp2
            go_ret
            exact ⟨rfl, HB9.out⟩
end Go.Proofs.YtagpkphehkfjgaaDoor.Px
