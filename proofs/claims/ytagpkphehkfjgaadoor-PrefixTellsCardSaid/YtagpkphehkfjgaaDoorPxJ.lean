/- The law PrefixTells, for every input. -/
import Derived.Test.YtagpkphehkfjgaaDoorPxH
import Derived.Deep.RegionHeld3
set_option linter.unusedVariables false
set_option linter.unusedSimpArgs false
namespace Go.Proofs.YtagpkphehkfjgaaDoor.Px
open Go.RowKit Go.Proofs.YtagpkphehkfjgaaDoorW.PrintWords Go.Proofs.YtagpkphehkfjgaaDoorW.PrintLast Go.Proofs.YtagpkphehkfjgaaDoorW.PrintMore
attribute [local go_sem high] eqA24
/-- The arguments' variables. -/
structure W4 (w : World) (gp gq gx : Nat) (p : Nat) (n : Int) (q : Nat) (m : Int) (a : Nat) (k : Int) (W : World) : Prop where
  p : W.heap[gp]? = some (.cells #[.int .u32 p, .int .i64 n] 24 (0, 0))
  q : W.heap[gq]? = some (.cells #[.int .u32 q, .int .i64 m] 24 (0, 0))
  x : W.heap[gx]? = some (.cells #[.int .u32 a, .int .i64 k] 31 (0, 0))
  b : Below w.heap.size w W
theorem W4.below {w W W' : World} {gp gq gx p q a : Nat} {n m k : Int} (h : W4 w gp gq gx p n q m a k W) (hb : Below W.heap.size W W') : W4 w gp gq gx p n q m a k W' :=
  ⟨blk_below h.p hb, blk_below h.q hb, blk_below h.x hb, below_step h.b hb⟩
theorem xc0 {W : World} {g b : Nat} {n : Int} (h : W.heap[g]? = some (.cells #[.int .u32 b, .int .i64 n] 31 (0, 0))) : W.cell? ⟨g, 0, none⟩ = some (.int .u32 b) := by have := blk_cell h 0; simpa using this
theorem xc1 {W : World} {g b : Nat} {n : Int} (h : W.heap[g]? = some (.cells #[.int .u32 b, .int .i64 n] 31 (0, 0))) : W.cell? ⟨g, 1, none⟩ = some (.int .i64 n) := by have := blk_cell h 1; simpa using this
theorem W4.cells {w W : World} {gp gq gx p q a : Nat} {n m k : Int} (h : W4 w gp gq gx p n q m a k W) : (W.cell? ⟨gp, 0, none⟩ = some (.int .u32 p) ∧ W.cell? ⟨gp, 1, none⟩ = some (.int .i64 n)) ∧ (W.cell? ⟨gq, 0, none⟩ = some (.int .u32 q) ∧ W.cell? ⟨gq, 1, none⟩ = some (.int .i64 m)) ∧ W.cell? ⟨gx, 0, none⟩ = some (.int .u32 a) ∧ W.cell? ⟨gx, 1, none⟩ = some (.int .i64 k) :=
  ⟨⟨pc0 h.p, pc1 h.p⟩, ⟨pc0 h.q, pc1 h.q⟩, xc0 h.x, xc1 h.x⟩
theorem keep_six {w1 W W' : World} {a0 a1 a2 a3 a4 a5 : Addr} {v0 v1 v2 v3 v4 v5 : Value} (h : (W.cell? a0 = some v0 ∧ W.cell? a1 = some v1 ∧ W.cell? a2 = some v2 ∧ W.cell? a3 = some v3 ∧ W.cell? a4 = some v4 ∧ W.cell? a5 = some v5) ∧ Aside0 (Below w1.heap.size w1 W)) (hb : Below W.heap.size W W') : (W'.cell? a0 = some v0 ∧ W'.cell? a1 = some v1 ∧ W'.cell? a2 = some v2 ∧ W'.cell? a3 = some v3 ∧ W'.cell? a4 = some v4 ∧ W'.cell? a5 = some v5) ∧ Aside0 (Below w1.heap.size w1 W') :=
  ⟨⟨pw_cell_below hb h.1.1, pw_cell_below hb h.1.2.1, pw_cell_below hb h.1.2.2.1, pw_cell_below hb h.1.2.2.2.1, pw_cell_below hb h.1.2.2.2.2.1, pw_cell_below hb h.1.2.2.2.2.2⟩, ⟨below_step h.2.out hb⟩⟩
theorem hw11 {p : Prop} {w1 W : World} (h : p ∧ Aside0 (Below w1.heap.size w1 W)) : Below w1.heap.size w1 W := h.2.out
set_option maxHeartbeats 3200000 in
set_option maxRecDepth 100000 in
theorem tells_any (p : Nat) (n : Int) (q : Nat) (m : Int) (a : Nat) (k : Int) (w : World) (hg : Gl w) (h0 : p < 4294967296) (h1 : q < 4294967296) (ha : a < 4294967296) :
    Calls Tryd.prog 4 #[pv p n, pv q m, .agg #[.int .u32 a, .int .i64 k]] w fun e w' => e = .returned (.bool true) ∧ Below w.heap.size w w' := by
  have HG := Aside0.mk hg
  have H0 := Aside0.mk h0
  have H1 := Aside0.mk h1
  have HA := Aside0.mk ha
  clear hg h0 h1 ha
  go_enter Tryd.func4, Tryd.ntmps4
  go_upto_region 1 with (fail)
  refine wp_world (fun W => W4 w w.heap.size (w.heap.size + 1) (w.heap.size + 1 + 1) p n q m a k W) (by
    obtain ⟨x0, x1, x2⟩ := three w w.heap.size rfl (.cells #[.int .u32 p, .int .i64 n] 24) (.cells #[.int .u32 q, .int .i64 m] 24) (.cells #[.int .u32 a, .int .i64 k] 31)
    exact ⟨x0, x1, x2, below_alloc (below_alloc (below_alloc (Below.refl _ _) _) _) _⟩) ?_
  intro w1 hw
  obtain ⟨gp, hgp⟩ : ∃ gp, w.heap.size = gp := ⟨_, rfl⟩
  obtain ⟨gq, hgq⟩ : ∃ gq, w.heap.size + 1 = gq := ⟨_, rfl⟩
  obtain ⟨gx, hgx⟩ : ∃ gx, w.heap.size + 1 + 1 = gx := ⟨_, rfl⟩
  rw [hgx, hgq, hgp] at hw
  rw [hgx, hgq, hgp]
  clear hgp hgq hgx
  have HW := Aside0.mk hw
  clear hw
  have HG1 := Aside0.mk (HG.out.below HW.out.b)
  clear HG
  obtain ⟨⟨c0, c1⟩, ⟨c2, c3⟩, c4, c5⟩ := HW.out.cells
  obtain ⟨b1, hb1⟩ : ∃ b, decide (May p n) = b := ⟨_, rfl⟩
  obtain ⟨b2, hb2⟩ : ∃ b, decide (May q m) = b := ⟨_, rfl⟩
  have HM1 := Aside0.mk hb1
  have HM2 := Aside0.mk hb2
  clear hb1 hb2
  go_cut [7, 8] (fun v7 v8 wx => v7 = .bool b1 ∧ v8 = .bool b2 ∧ Aside0 (W4 w gp gq gx p n q m a k wx) ∧ Aside0 (Gl wx))
  case first =>
    go_region_held3 (fun W => (W.cell? ⟨gp, 0, none⟩ = some (.int .u32 p) ∧ W.cell? ⟨gp, 1, none⟩ = some (.int .i64 n) ∧ W.cell? ⟨gq, 0, none⟩ = some (.int .u32 q) ∧ W.cell? ⟨gq, 1, none⟩ = some (.int .i64 m) ∧ W.cell? ⟨gx, 0, none⟩ = some (.int .u32 a) ∧ W.cell? ⟨gx, 1, none⟩ = some (.int .i64 k)) ∧ Aside0 (Below w1.heap.size w1 W))
      ((first | (with_reducible assumption) | exact ⟨⟨c0, c1, c2, c3, c4, c5⟩, ⟨below_drew (Below.refl _ _)⟩⟩ | exact ⟨⟨c0, c1, c2, c3, c4, c5⟩, ⟨Below.refl _ _⟩⟩))
      (first
        | (go_at_call 12; (with_reducible refine (rmay_calls p n _ H0.out).mono ?_); rw [HM1.out]; rintro e w' ⟨rfl, hb⟩; have hS' := keep_six (by with_reducible assumption) hb)
        | (go_at_call 12; (with_reducible refine (rmay_calls q m _ H1.out).mono ?_); rw [HM2.out]; rintro e w' ⟨rfl, hb⟩; have hS' := keep_six (by with_reducible assumption) hb))
    have HW2 := Aside0.mk (HW.out.below hS'.2.out)
    have HG2 := Aside0.mk (HG1.out.below hS'.2.out)
    clear hS' HW HG1 c0 c1 c2 c3 c4 c5
    go_wp2_with fail
    go_meet
    exact ⟨rfl, rfl, HW2, HG2⟩
  case rest =>
    clear HW HG1 c0 c1 c2 c3 c4 c5
    obtain ⟨rfl, rfl, HW, HG⟩ := hcut
    go_upto_region 2 with (fail)
    go_cut [45] (fun v45 wx => v45 = .bool false ∧ Aside0 (W4 w gp gq gx p n q m a k wx) ∧ Aside0 (Gl wx))
    case first =>
      obtain ⟨⟨c0, c1⟩, ⟨c2, c3⟩, c4, c5⟩ := HW.out.cells
      have hq := eqb_self (cutK a (32 - clampN k) : Nat) (clampN k : Nat)
      cases b1
      · have hnm : ¬ May p n := of_decide_eq_false HM1.out
        have HC0 : Aside0 (chk p n = 1) := ⟨by unfold chk; rw [if_neg hnm]⟩
        have HT0 : Aside0 (decide (Wit p n a) = false) := ⟨decide_eq_false (fun h => hnm h.1)⟩
        clear hnm
        refine wp_region_held_drew (S := (fun W => (W.cell? ⟨gp, 0, none⟩ = some (.int .u32 p) ∧ W.cell? ⟨gp, 1, none⟩ = some (.int .i64 n) ∧ W.cell? ⟨gq, 0, none⟩ = some (.int .u32 q) ∧ W.cell? ⟨gq, 1, none⟩ = some (.int .i64 m) ∧ W.cell? ⟨gx, 0, none⟩ = some (.int .u32 a) ∧ W.cell? ⟨gx, 1, none⟩ = some (.int .i64 k)) ∧ Aside0 (Below wc.heap.size wc W))) (by kernel_rfl) ⟨⟨c0, c1, c2, c3, c4, c5⟩, ⟨below_drew (Below.refl _ _)⟩⟩ (fun hHeld => ?_)
        refine wpAnyH_take (i := 0) (v := .agg #[.int .u32 p, .int .i64 n]) rfl (by kernel_rfl) (by kernel_rfl) (by kernel_rfl) (fun _ _ _ h => h) (Or.inl ⟨by kernel_rfl, fun w hSw => by (obtain ⟨⟨c0, c1, c2, c3, c4, c5⟩, _⟩ := hSw; go_simp)⟩) (by assumption) ?_
        simp only [Act.put, List.getElem_toArray, List.getElem_cons_succ, List.getElem_cons_zero, List.setIfInBounds_toArray, List.set_cons_zero, List.set_cons_succ]
        refine wpAnyH_take (i := 3) (v := .bool false) rfl (by kernel_rfl) (by kernel_rfl) (by kernel_rfl) (fun _ _ _ h => h) (Or.inl ⟨by kernel_rfl, fun w hSw => by (go_simp)⟩) (by assumption) ?_
        simp only [Act.put, List.getElem_toArray, List.getElem_cons_succ, List.getElem_cons_zero, List.setIfInBounds_toArray, List.set_cons_zero, List.set_cons_succ]
        refine wpAnyH_ready (rs := [1]) (by kernel_rfl) (by simp) ?_
        refine AllReadyH.cons rfl (fun K hK => ?_) AllReadyH.nil
        go_simp
        go_at_call 13
        refine (check_calls p n _ H0.out).mono ?_
        rw [HC0.out]
        rintro e w' ⟨rfl, hb⟩
        have hS' := keep_six hHeld hb
        clear hHeld hb
        go_wp2_with fail
        refine hK.out _ _ (hS') (fun hHeld => ?_)
        refine wpAnyH_take (i := 2) (v := .bool false) rfl (by kernel_rfl) (by kernel_rfl) (by kernel_rfl) (fun _ _ _ h => h) (Or.inl ⟨by kernel_rfl, fun w hSw => by (go_simp)⟩) (by assumption) ?_
        simp only [Act.put, List.getElem_toArray, List.getElem_cons_succ, List.getElem_cons_zero, List.setIfInBounds_toArray, List.set_cons_zero, List.set_cons_succ]
        refine wpAnyH_take (i := 4) (v := .bool false) rfl (by kernel_rfl) (by kernel_rfl) (by kernel_rfl) (fun _ _ _ h => h) (Or.inl ⟨by kernel_rfl, fun w hSw => by (go_simp)⟩) (by assumption) ?_
        simp only [Act.put, List.getElem_toArray, List.getElem_cons_succ, List.getElem_cons_zero, List.setIfInBounds_toArray, List.set_cons_zero, List.set_cons_succ]
        refine wpAnyH_take (i := 5) (v := .bool false) rfl (by kernel_rfl) (by kernel_rfl) (by kernel_rfl) (fun _ _ _ h => h) (Or.inl ⟨by kernel_rfl, fun w hSw => by (go_simp)⟩) (by assumption) ?_
        simp only [Act.put, List.getElem_toArray, List.getElem_cons_succ, List.getElem_cons_zero, List.setIfInBounds_toArray, List.set_cons_zero, List.set_cons_succ]
        refine wpAnyH_take (i := 6) (v := .agg #[.int .u32 p, .int .i64 n]) rfl (by kernel_rfl) (by kernel_rfl) (by kernel_rfl) (fun _ _ _ h => h) (Or.inl ⟨by kernel_rfl, fun w hSw => by (obtain ⟨⟨c0, c1, c2, c3, c4, c5⟩, _⟩ := hSw; go_simp)⟩) (by assumption) ?_
        simp only [Act.put, List.getElem_toArray, List.getElem_cons_succ, List.getElem_cons_zero, List.setIfInBounds_toArray, List.set_cons_zero, List.set_cons_succ]
        refine wpAnyH_take (i := 7) (v := .pointer (some ⟨gx, 0, none⟩)) rfl (by kernel_rfl) (by kernel_rfl) (by kernel_rfl) (fun _ _ _ h => h) (Or.inl ⟨by kernel_rfl, fun w hSw => by (go_simp)⟩) (by assumption) ?_
        simp only [Act.put, List.getElem_toArray, List.getElem_cons_succ, List.getElem_cons_zero, List.setIfInBounds_toArray, List.set_cons_zero, List.set_cons_succ]
        refine wpAnyH_take (i := 8) (v := .int .u32 a) rfl (by kernel_rfl) (by kernel_rfl) (by kernel_rfl) (fun _ _ _ h => h) (Or.inl ⟨by kernel_rfl, fun w hSw => by (obtain ⟨⟨c0, c1, c2, c3, c4, c5⟩, _⟩ := hSw; go_simp)⟩) (by assumption) ?_
        simp only [Act.put, List.getElem_toArray, List.getElem_cons_succ, List.getElem_cons_zero, List.setIfInBounds_toArray, List.set_cons_zero, List.set_cons_succ]
        refine wpAnyH_take (i := 10) (v := .bool false) rfl (by kernel_rfl) (by kernel_rfl) (by kernel_rfl) (fun _ _ _ h => h) (Or.inl ⟨by kernel_rfl, fun w hSw => by (go_simp)⟩) (by assumption) ?_
        simp only [Act.put, List.getElem_toArray, List.getElem_cons_succ, List.getElem_cons_zero, List.setIfInBounds_toArray, List.set_cons_zero, List.set_cons_succ]
        refine wpAnyH_ready (rs := [9]) (by kernel_rfl) (by simp) ?_
        refine AllReadyH.cons rfl (fun K hK => ?_) AllReadyH.nil
        go_simp
        go_at_call 10
        refine (within_calls p n a _ H0.out HA.out).mono ?_
        rw [HT0.out]
        rintro e w' ⟨rfl, hb⟩
        have hS' := keep_six hHeld hb
        clear hHeld hb
        go_wp2_with fail
        refine hK.out _ _ (hS') (fun hHeld => ?_)
        refine wpAnyH_take (i := 11) (v := .bool false) rfl (by kernel_rfl) (by kernel_rfl) (by kernel_rfl) (fun _ _ _ h => h) (Or.inl ⟨by kernel_rfl, fun w hSw => by (go_simp)⟩) (by assumption) ?_
        simp only [Act.put, List.getElem_toArray, List.getElem_cons_succ, List.getElem_cons_zero, List.setIfInBounds_toArray, List.set_cons_zero, List.set_cons_succ]
        refine wpAnyH_take (i := 12) (v := undef) rfl (by kernel_rfl) (by kernel_rfl) (by kernel_rfl) (fun _ _ _ h => h) (Or.inr ⟨by kernel_rfl, rfl⟩) (by assumption) ?_
        simp only [Act.put, List.getElem_toArray, List.getElem_cons_succ, List.getElem_cons_zero, List.setIfInBounds_toArray, List.set_cons_zero, List.set_cons_succ]
        refine wpAnyH_take (i := 13) (v := undef) rfl (by kernel_rfl) (by kernel_rfl) (by kernel_rfl) (fun _ _ _ h => h) (Or.inr ⟨by kernel_rfl, rfl⟩) (by assumption) ?_
        simp only [Act.put, List.getElem_toArray, List.getElem_cons_succ, List.getElem_cons_zero, List.setIfInBounds_toArray, List.set_cons_zero, List.set_cons_succ]
        refine wpAnyH_take (i := 14) (v := undef) rfl (by kernel_rfl) (by kernel_rfl) (by kernel_rfl) (fun _ _ _ h => h) (Or.inr ⟨by kernel_rfl, rfl⟩) (by assumption) ?_
        simp only [Act.put, List.getElem_toArray, List.getElem_cons_succ, List.getElem_cons_zero, List.setIfInBounds_toArray, List.set_cons_zero, List.set_cons_succ]
        refine wpAnyH_take (i := 15) (v := undef) rfl (by kernel_rfl) (by kernel_rfl) (by kernel_rfl) (fun _ _ _ h => h) (Or.inr ⟨by kernel_rfl, rfl⟩) (by assumption) ?_
        simp only [Act.put, List.getElem_toArray, List.getElem_cons_succ, List.getElem_cons_zero, List.setIfInBounds_toArray, List.set_cons_zero, List.set_cons_succ]
        refine wpAnyH_take (i := 16) (v := .bool false) rfl (by kernel_rfl) (by kernel_rfl) (by kernel_rfl) (fun _ _ _ h => h) (Or.inl ⟨by kernel_rfl, fun w hSw => by (go_simp)⟩) (by assumption) ?_
        simp only [Act.put, List.getElem_toArray, List.getElem_cons_succ, List.getElem_cons_zero, List.setIfInBounds_toArray, List.set_cons_zero, List.set_cons_succ]
        refine wpAnyH_take (i := 17) (v := .bool false) rfl (by kernel_rfl) (by kernel_rfl) (by kernel_rfl) (fun _ _ _ h => h) (Or.inl ⟨by kernel_rfl, fun w hSw => by (go_simp)⟩) (by assumption) ?_
        simp only [Act.put, List.getElem_toArray, List.getElem_cons_succ, List.getElem_cons_zero, List.setIfInBounds_toArray, List.set_cons_zero, List.set_cons_succ]
        refine wpAnyH_take (i := 18) (v := .bool false) rfl (by kernel_rfl) (by kernel_rfl) (by kernel_rfl) (fun _ _ _ h => h) (Or.inl ⟨by kernel_rfl, fun w hSw => by (go_simp)⟩) (by assumption) ?_
        simp only [Act.put, List.getElem_toArray, List.getElem_cons_succ, List.getElem_cons_zero, List.setIfInBounds_toArray, List.set_cons_zero, List.set_cons_succ]
        refine wpAnyH_take (i := 19) (v := .bool false) rfl (by kernel_rfl) (by kernel_rfl) (by kernel_rfl) (fun _ _ _ h => h) (Or.inl ⟨by kernel_rfl, fun w hSw => by (go_simp)⟩) (by assumption) ?_
        simp only [Act.put, List.getElem_toArray, List.getElem_cons_succ, List.getElem_cons_zero, List.setIfInBounds_toArray, List.set_cons_zero, List.set_cons_succ]
        refine wpAnyH_take (i := 20) (v := .pointer (some ⟨gx, 0, none⟩)) rfl (by kernel_rfl) (by kernel_rfl) (by kernel_rfl) (fun _ _ _ h => h) (Or.inl ⟨by kernel_rfl, fun w hSw => by (go_simp)⟩) (by assumption) ?_
        simp only [Act.put, List.getElem_toArray, List.getElem_cons_succ, List.getElem_cons_zero, List.setIfInBounds_toArray, List.set_cons_zero, List.set_cons_succ]
        refine wpAnyH_take (i := 21) (v := .int .u32 a) rfl (by kernel_rfl) (by kernel_rfl) (by kernel_rfl) (fun _ _ _ h => h) (Or.inl ⟨by kernel_rfl, fun w hSw => by (obtain ⟨⟨c0, c1, c2, c3, c4, c5⟩, _⟩ := hSw; go_simp)⟩) (by assumption) ?_
        simp only [Act.put, List.getElem_toArray, List.getElem_cons_succ, List.getElem_cons_zero, List.setIfInBounds_toArray, List.set_cons_zero, List.set_cons_succ]
        refine wpAnyH_take (i := 22) (v := .pointer (some ⟨gx, 1, none⟩)) rfl (by kernel_rfl) (by kernel_rfl) (by kernel_rfl) (fun _ _ _ h => h) (Or.inl ⟨by kernel_rfl, fun w hSw => by (go_simp)⟩) (by assumption) ?_
        simp only [Act.put, List.getElem_toArray, List.getElem_cons_succ, List.getElem_cons_zero, List.setIfInBounds_toArray, List.set_cons_zero, List.set_cons_succ]
        refine wpAnyH_take (i := 23) (v := .int .i64 k) rfl (by kernel_rfl) (by kernel_rfl) (by kernel_rfl) (fun _ _ _ h => h) (Or.inl ⟨by kernel_rfl, fun w hSw => by (obtain ⟨⟨c0, c1, c2, c3, c4, c5⟩, _⟩ := hSw; go_simp)⟩) (by assumption) ?_
        simp only [Act.put, List.getElem_toArray, List.getElem_cons_succ, List.getElem_cons_zero, List.setIfInBounds_toArray, List.set_cons_zero, List.set_cons_succ]
        refine wpAnyH_take (i := 25) (v := .pointer (some ⟨gx, 0, none⟩)) rfl (by kernel_rfl) (by kernel_rfl) (by kernel_rfl) (fun _ _ _ h => h) (Or.inl ⟨by kernel_rfl, fun w hSw => by (go_simp)⟩) (by assumption) ?_
        simp only [Act.put, List.getElem_toArray, List.getElem_cons_succ, List.getElem_cons_zero, List.setIfInBounds_toArray, List.set_cons_zero, List.set_cons_succ]
        refine wpAnyH_take (i := 26) (v := .int .u32 a) rfl (by kernel_rfl) (by kernel_rfl) (by kernel_rfl) (fun _ _ _ h => h) (Or.inl ⟨by kernel_rfl, fun w hSw => by (obtain ⟨⟨c0, c1, c2, c3, c4, c5⟩, _⟩ := hSw; go_simp)⟩) (by assumption) ?_
        simp only [Act.put, List.getElem_toArray, List.getElem_cons_succ, List.getElem_cons_zero, List.setIfInBounds_toArray, List.set_cons_zero, List.set_cons_succ]
        refine wpAnyH_take (i := 27) (v := .pointer (some ⟨gx, 1, none⟩)) rfl (by kernel_rfl) (by kernel_rfl) (by kernel_rfl) (fun _ _ _ h => h) (Or.inl ⟨by kernel_rfl, fun w hSw => by (go_simp)⟩) (by assumption) ?_
        simp only [Act.put, List.getElem_toArray, List.getElem_cons_succ, List.getElem_cons_zero, List.setIfInBounds_toArray, List.set_cons_zero, List.set_cons_succ]
        refine wpAnyH_take (i := 28) (v := .int .i64 k) rfl (by kernel_rfl) (by kernel_rfl) (by kernel_rfl) (fun _ _ _ h => h) (Or.inl ⟨by kernel_rfl, fun w hSw => by (obtain ⟨⟨c0, c1, c2, c3, c4, c5⟩, _⟩ := hSw; go_simp)⟩) (by assumption) ?_
        simp only [Act.put, List.getElem_toArray, List.getElem_cons_succ, List.getElem_cons_zero, List.setIfInBounds_toArray, List.set_cons_zero, List.set_cons_succ]
        refine wpAnyH_ready (rs := [24]) (by kernel_rfl) (by simp) ?_
        refine AllReadyH.cons rfl (fun K hK => ?_) AllReadyH.nil
        go_simp
        go_at_call 15
        refine (cut_calls a k _ HA.out).mono ?_
        rintro e w' ⟨rfl, hb⟩
        have hS' := keep_six hHeld hb
        clear hHeld hb
        go_wp2_with fail
        refine hK.out _ _ (hS') (fun hHeld => ?_)
        refine wpAnyH_ready (rs := [29]) (by kernel_rfl) (by simp) ?_
        refine AllReadyH.cons rfl (fun K hK => ?_) AllReadyH.nil
        go_simp
        go_at_call 16
        refine (rcut_calls a k _ HA.out).mono ?_
        rintro e w' ⟨rfl, hb⟩
        have hS' := keep_six hHeld hb
        clear hHeld hb
        go_wp2_with fail
        refine hK.out _ _ (hS') (fun hHeld => ?_)
        refine wpAnyH_take (i := 30) (v := .bool false) rfl (by kernel_rfl) (by kernel_rfl) (by kernel_rfl) (fun _ _ _ h => h) (Or.inl ⟨by kernel_rfl, fun w hSw => by (go_simp)⟩) (by assumption) ?_
        simp only [Act.put, List.getElem_toArray, List.getElem_cons_succ, List.getElem_cons_zero, List.setIfInBounds_toArray, List.set_cons_zero, List.set_cons_succ]
        refine wpAnyH_take (i := 31) (v := .bool false) rfl (by kernel_rfl) (by kernel_rfl) (by kernel_rfl) (fun _ _ _ h => h) (Or.inl ⟨by kernel_rfl, fun w hSw => by (go_simp)⟩) (by assumption) ?_
        simp only [Act.put, List.getElem_toArray, List.getElem_cons_succ, List.getElem_cons_zero, List.setIfInBounds_toArray, List.set_cons_zero, List.set_cons_succ]
        refine wpAnyH_done (by kernel_rfl) ?_ _
        have HW2 := Aside0.mk (HW.out.below hS'.2.out)
        have HG2 := Aside0.mk (HG.out.below hS'.2.out)
        clear hS' HW HG c0 c1 c2 c3 c4 c5
        go_wp2_with fail
        go_meet
        exact ⟨rfl, HW2, HG2⟩
      · have hm : May p n := of_decide_eq_true HM1.out
        have HC0 : Aside0 (chk p n = 0) := ⟨by unfold chk; rw [if_pos hm]⟩
        have HMM := Aside0.mk hm
        obtain ⟨r, hr⟩ : ∃ r, decide (Wit p n a) = r := ⟨_, rfl⟩
        have HT0 := Aside0.mk hr
        clear hm hr
        go_region_held3 (fun W => (W.cell? ⟨gp, 0, none⟩ = some (.int .u32 p) ∧ W.cell? ⟨gp, 1, none⟩ = some (.int .i64 n) ∧ W.cell? ⟨gq, 0, none⟩ = some (.int .u32 q) ∧ W.cell? ⟨gq, 1, none⟩ = some (.int .i64 m) ∧ W.cell? ⟨gx, 0, none⟩ = some (.int .u32 a) ∧ W.cell? ⟨gx, 1, none⟩ = some (.int .i64 k)) ∧ Aside0 (Below wc.heap.size wc W))
          ((first | (with_reducible assumption) | exact ⟨⟨c0, c1, c2, c3, c4, c5⟩, ⟨below_drew (Below.refl _ _)⟩⟩ | exact ⟨⟨c0, c1, c2, c3, c4, c5⟩, ⟨Below.refl _ _⟩⟩))
          (first
            | (go_at_call 13; (with_reducible refine (check_calls p n _ H0.out).mono ?_); rw [HC0.out]; rintro e w' ⟨rfl, hb⟩; have hS' := keep_six (by with_reducible assumption) hb)
            | (go_at_call 10; (with_reducible refine (within_calls p n a _ H0.out HA.out).mono ?_); rw [HT0.out]; rintro e w' ⟨rfl, hb⟩; have hS' := keep_six (by with_reducible assumption) hb)
            | (go_at_call 14; (with_reducible refine (rwithin_may p n a _ H0.out HA.out HMM.out).mono ?_); rw [HT0.out]; rintro e w' ⟨rfl, hb⟩; have hS' := keep_six (by with_reducible assumption) hb)
            | (go_at_call 15; (with_reducible refine (cut_calls a k _ HA.out).mono ?_); rintro e w' ⟨rfl, hb⟩; have hS' := keep_six (by with_reducible assumption) hb)
            | (go_at_call 16; (with_reducible refine (rcut_calls a k _ HA.out).mono ?_); rintro e w' ⟨rfl, hb⟩; have hS' := keep_six (by with_reducible assumption) hb))
        have HW2 := Aside0.mk (HW.out.below hS'.2.out)
        have HG2 := Aside0.mk (HG.out.below hS'.2.out)
        clear hS' HW HG c0 c1 c2 c3 c4 c5
        go_wp2_with fail
        go_meet
        exact ⟨rfl, HW2, HG2⟩
    case rest =>
      clear HW HG
      obtain ⟨rfl, HW, HG⟩ := hcut
      go_upto_region 4 with (fail)
      go_cut [9] (fun v9 wx => v9 = .bool (decide (Cov p n q m)) ∧ Aside0 (W4 w gp gq gx p n q m a k wx) ∧ Aside0 (Gl wx))
      case first =>
        have HM1 := HM1
        obtain ⟨⟨c0, c1⟩, ⟨c2, c3⟩, c4, c5⟩ := HW.out.cells
        cases b1
        · have HE : Aside0 (decide (Cov p n q m) = false) := ⟨decide_eq_false (fun h => of_decide_eq_false HM1.out h.2.2.1)⟩
          clear c0 c1 c2 c3 c4 c5
          go_wp2_with fail
          go_meet
          rw [HE.out]
          exact ⟨rfl, HW, HG⟩
        · cases b2
          · have HE : Aside0 (decide (Cov p n q m) = false) := ⟨decide_eq_false (fun h => of_decide_eq_false HM2.out h.1)⟩
            clear c0 c1 c2 c3 c4 c5
            go_wp2_with fail
            go_meet
            rw [HE.out]
            exact ⟨rfl, HW, HG⟩
          · by_cases hle : n ≤ m
            · have d0 : decide (n ≤ m) = true := decide_eq_true hle
              have hm1 := of_decide_eq_true HM1.out
              have HMM := Aside0.mk hm1
              have HE : Aside0 (decide (Wit p n q) = decide (Cov p n q m)) := ⟨by
                apply decide_eq_decide.2
                exact ⟨fun h => ⟨of_decide_eq_true HM2.out, hle, h⟩, fun h => h.2.2⟩⟩
              clear hle hm1
              go_wp2_with fail
              refine (rwithin_may p n q _ H0.out H1.out HMM.out).mono ?_
              rw [HE.out]
              rintro e w2 ⟨rfl, hb⟩
              have HW2 := Aside0.mk (HW.out.below hb)
              have HG2 := Aside0.mk (HG.out.below hb)
              clear hb HW HG c0 c1 c2 c3 c4 c5 HE
              go_wp2_with fail
              go_meet
              exact ⟨rfl, HW2, HG2⟩
            · have HE : Aside0 (decide (Cov p n q m) = false) := ⟨decide_eq_false (fun h => hle h.2.1)⟩
              have d0 : decide (n ≤ m) = false := decide_eq_false hle
              clear hle
              go_wp2_with fail
              go_meet
              rw [HE.out]
              exact ⟨rfl, HW, HG⟩
      case rest =>
        clear HW HG
        obtain ⟨rfl, HW, HG⟩ := hcut
        obtain ⟨cv, hcv⟩ : ∃ cv, decide (Cov p n q m) = cv := ⟨_, rfl⟩
        have HCV := Aside0.mk hcv
        rw [hcv]
        clear hcv
        have HWT : Aside0 (decide (Wit (cutK a (32 - clampN k)) (clampN k : Nat) a) = true) := ⟨decide_eq_true (wit_cut a (clampN k) (clampN_le k))⟩
        obtain ⟨⟨c0, c1⟩, ⟨c2, c3⟩, c4, c5⟩ := HW.out.cells
        go_upto_region 5 with (fail)
        go_region_held3 (fun W => (W.cell? ⟨gp, 0, none⟩ = some (.int .u32 p) ∧ W.cell? ⟨gp, 1, none⟩ = some (.int .i64 n) ∧ W.cell? ⟨gq, 0, none⟩ = some (.int .u32 q) ∧ W.cell? ⟨gq, 1, none⟩ = some (.int .i64 m) ∧ W.cell? ⟨gx, 0, none⟩ = some (.int .u32 a) ∧ W.cell? ⟨gx, 1, none⟩ = some (.int .i64 k)) ∧ Aside0 (Below wc.heap.size wc W))
          ((first | (with_reducible assumption) | exact ⟨⟨c0, c1, c2, c3, c4, c5⟩, ⟨below_drew (Below.refl _ _)⟩⟩ | exact ⟨⟨c0, c1, c2, c3, c4, c5⟩, ⟨Below.refl _ _⟩⟩))
          (first
            | (go_at_call 9; (with_reducible refine (covers_calls p n q m _ H0.out H1.out).mono ?_); rw [HCV.out]; rintro e w' ⟨rfl, hb⟩; have hS' := keep_six (by with_reducible assumption) hb)
            | (go_at_call 15; (with_reducible refine (cut_calls a k _ HA.out).mono ?_); rintro e w' ⟨rfl, hb⟩; have hS' := keep_six (by with_reducible assumption) hb)
            | (go_at_call 10; (with_reducible refine (within_calls (cutK a (32 - clampN k)) (clampN k : Nat) a _ (cutK_lt HA.out) HA.out).mono ?_); rw [HWT.out]; rintro e w' ⟨rfl, hb⟩; have hS' := keep_six (by with_reducible assumption) hb)
            | (go_at_call 11; (with_reducible refine (awake_calls _ (HG.out.below (hw11 (by with_reducible assumption)))).mono ?_); rintro e w' ⟨rfl, hb⟩; have hS' := keep_six (by with_reducible assumption) hb))
        have HW2 := Aside0.mk (HW.out.below hS'.2.out)
        clear hS' HW HG c0 c1 c2 c3 c4 c5
        go_wp2
        go_ret
        exact ⟨rfl, HW2.out.b⟩
end Go.Proofs.YtagpkphehkfjgaaDoor.Px
