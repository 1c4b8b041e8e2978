/- Contracts of prefix.mask, Check, Within, Covers, Cut and of the reference (Bit, May, Within, Cut), for every input. -/
import Derived.Test.YtagpkphehkfjgaaDoorProg
import Derived.Below
import Derived.Deep.Draws
import Derived.Deep.AppendLies
import Derived.Maps.AppendAt
import Derived.OwnWalk
import Derived.Laws.BytesArg
import Derived.Laws.MakeOwn
import Derived.Laws.OwnMore
import Derived.Deep.OwnRows
import Derived.Tactics
import Derived.Lib.ConvBytes
import Derived.Laws.Slices
import Derived.WalkKit
import Derived.KernelRfl
import Derived.RowKit3
import Derived.Deep.LoopGhost
import Derived.Deep.QuietTactic
import Derived.BigQuiet
import Derived.WideLaws
import Derived.Deep.DeepCutAuto
import Derived.Deep.CutBlock
import Derived.Deep.RegionHeld3
import Derived.Laws.Rows
import Derived.Lib.AppendStr
import Derived.ArgAppend
import Derived.Laws.IdiomCopy
import Derived.OrdersHeld
import Derived.Laws.BitsLemmas
import Derived.RowKit
import Derived.Test.YtagpkphehkfjgaaDoorWWords
import Derived.Test.YtagpkphehkfjgaaDoorWLast
import Derived.Test.YtagpkphehkfjgaaDoorWTab
import Derived.Test.YtagpkphehkfjgaaDoorWFour
import Derived.Test.YtagpkphehkfjgaaDoorWQPut
import Derived.Test.YtagpkphehkfjgaaDoorWApart
import Derived.Test.YtagpkphehkfjgaaDoorWArr
import Derived.Test.YtagpkphehkfjgaaDoorWZeros
import Derived.Test.YtagpkphehkfjgaaDoorWFoot
import Derived.Test.YtagpkphehkfjgaaDoorWKept
import Derived.Test.YtagpkphehkfjgaaDoorWShare
import Derived.Test.YtagpkphehkfjgaaDoorWN
import Derived.Test.YtagpkphehkfjgaaDoorWFootNe
import Derived.Test.YtagpkphehkfjgaaDoorWAt
import Derived.Test.YtagpkphehkfjgaaDoorWEqStruct
import Derived.Test.YtagpkphehkfjgaaDoorWRepsOne
import Derived.Test.YtagpkphehkfjgaaDoorWInv
import Derived.Test.YtagpkphehkfjgaaDoorWInvWords
import Derived.Test.YtagpkphehkfjgaaDoorWGuard
import Derived.Test.YtagpkphehkfjgaaDoorWNEv
import Derived.Test.YtagpkphehkfjgaaDoorWMore
import Derived.BigRegion
import Derived.Deep.RegionHeld3
import Derived.Test.YtagpkphehkfjgaaDoorPxQ
set_option linter.unusedVariables false
set_option linter.unusedSimpArgs false
namespace Go.Proofs.YtagpkphehkfjgaaDoor.Px
open Go.RowKit Go.Proofs.YtagpkphehkfjgaaDoorW.PrintWords Go.Proofs.YtagpkphehkfjgaaDoorW.PrintLast Go.Proofs.YtagpkphehkfjgaaDoorW.PrintMore
/-- The world at this place, known by these facts alone. -/
theorem wp_world {P : Program} {C : Code} {Q : Exit → Act → World → Prop} {a : Act} {W : World} (F : World → Prop) (hF : F W) (h : ∀ W', F W' → C.wp P Q a W') : C.wp P Q a W := h W hF
theorem mask_calls (n : Nat) (hn : n ≤ 32) (w : World) : Calls Tryd.prog 32 #[.int .i64 n] w fun e w' => e = .returned (.int .u32 (maskK (32 - n) : Nat)) ∧ w = w' := by
  by_cases h0 : n = 0
  · subst h0
    go_enter Tryd.func32, Tryd.ntmps32
    go_wp2
    go_ret
    exact ⟨rfl, rfl⟩
  · have h1 : ((n : Int) == 0) = false := by rw [beq_eq_false_iff_ne]; omega
    go_enter Tryd.func32, Tryd.ntmps32
    go_wp2
    go_ret
    refine ⟨?_, rfl⟩
    show Ending.returned (Value.int IntKind.u32 (4294967295 * 2 ^ (32 - n) % 4294967296)) = _
    congr 2
    have hp : (2 : Int) ^ (32 - n) = ((2 ^ (32 - n) : Nat) : Int) := by simp
    have h2 : 2 ^ (32 - n) ≤ 2 ^ 31 := Nat.pow_le_pow_right (by decide) (by omega)
    have h3 := Nat.two_pow_pos (32 - n)
    unfold maskK
    rw [hp]
    generalize 2 ^ (32 - n) = m at *
    omega
/-- A struct's cells. -/
abbrev pv (b : Nat) (n : Int) : Value := .agg #[.int .u32 b, .int .i64 n]
theorem and_m {a n : Nat} (ha : a < 4294967296) (hn : n ≤ 32) : bits .and .u32 (a : Int) (maskK (32 - n) : Nat) = (cutK a (32 - n) : Nat) := by
  rw [u32_and_nat a _ ha (maskK_lt (by omega)), and_mask ha (by omega)]
theorem andNot_m {a n : Nat} (ha : a < 4294967296) (hn : n ≤ 32) : bits .andNot .u32 (a : Int) (maskK (32 - n) : Nat) = (a % 2 ^ (32 - n) : Nat) := by
  rw [u32_andNot_nat a _ ha (maskK_lt (by omega)), andNot_mask (by omega)]
theorem mask_b (n : Nat) (hn : n ≤ 32) (w : World) : Calls Tryd.prog 32 #[.int .i64 n] w fun e w' => e = .returned (.int .u32 (maskK (32 - n) : Nat)) ∧ Below w.heap.size w w' := by
  refine (mask_calls n hn w).mono ?_
  rintro e w' ⟨rfl, rfl⟩
  exact ⟨rfl, Below.refl _ _⟩
theorem keep_two {w1 W W' : World} {a0 a1 : Addr} {v0 v1 : Value} (h : (W.cell? a0 = some v0 ∧ W.cell? a1 = some v1) ∧ Aside0 (Below w1.heap.size w1 W)) (hb : Below W.heap.size W W') : (W'.cell? a0 = some v0 ∧ W'.cell? a1 = some v1) ∧ Aside0 (Below w1.heap.size w1 W') :=
  ⟨⟨pw_cell_below hb h.1.1, pw_cell_below hb h.1.2⟩, ⟨below_step h.2.out hb⟩⟩
/-- A boxed struct, and what is known of the world. -/
def Bx (w : World) (gx : Nat) (b : Nat) (n : Int) (W : World) : Prop := W.heap[gx]? = some (.cells #[.int .u32 b, .int .i64 n] 24 (0, 0)) ∧ Below w.heap.size w W
theorem bx_new (w : World) (b : Nat) (n : Int) : Bx w w.heap.size b n (w.alloc (.cells #[.int .u32 b, .int .i64 n] 24)) := ⟨blk_new w _, below_alloc (Below.refl _ _) _⟩
theorem Bx.c0 {w W : World} {gx b : Nat} {n : Int} (h : Bx w gx b n W) : W.cell? ⟨gx, 0, none⟩ = some (.int .u32 b) := by have := blk_cell h.1 0; simpa using this
theorem Bx.c1 {w W : World} {gx b : Nat} {n : Int} (h : Bx w gx b n W) : W.cell? ⟨gx, 1, none⟩ = some (.int .i64 n) := by have := blk_cell h.1 1; simpa using this
/-- What Check answers. -/
def chk (b : Nat) (n : Int) : Nat := if May b n then 0 else 1
theorem mask_s (n : Nat) (hn : n ≤ 32) (w : World) : Calls Tryd.prog 32 #[.int .i64 n] w fun e w' => e = .returned (.int .u32 (maskK (32 - n) : Nat)) ∧ w' = w := by
  refine (mask_calls n hn w).mono ?_
  rintro e w' ⟨rfl, rfl⟩
  exact ⟨rfl, rfl⟩
set_option maxHeartbeats 1600000 in
set_option maxRecDepth 100000 in
theorem check_calls (b : Nat) (n : Int) (w : World) (hb : b < 4294967296) : Calls Tryd.prog 13 #[pv b n] w fun e w' => e = .returned (.int .i64 (chk b n : Nat)) ∧ Below w.heap.size w w' := by
  by_cases h0 : n < 0
  · have HE : Aside0 (chk b n = 1) := ⟨by unfold chk; rw [if_neg (fun h => by have := h.1; omega)]⟩
    have d0 : decide (n < 0) = true := decide_eq_true h0
    clear h0
    go_enter Tryd.func13, Tryd.ntmps13
    go_upto_region 1 with (fail)
    obtain ⟨gx, hgx⟩ : ∃ gx, w.heap.size = gx := ⟨_, rfl⟩
    rw [hgx]
    refine wp_world (Bx w gx b n) (by subst hgx; exact bx_new w b n) ?_
    clear hgx
    intro w1 HX
    have k0 := HX.c0
    have k1 := HX.c1
    have HB := Aside0.mk HX.2
    clear HX
    go_quiet (fail)
    go_wp2
    go_ret
    exact ⟨by rw [HE.out]; rfl, pw_below_drewN HB.out _⟩
  · by_cases h1 : 32 < n
    · have HE : Aside0 (chk b n = 1) := ⟨by unfold chk; rw [if_neg (fun h => by have := h.2.1; omega)]⟩
      have d0 : decide (n < 0) = false := decide_eq_false h0
      have d1 : decide (32 < n) = true := decide_eq_true h1
      clear h0 h1
      go_enter Tryd.func13, Tryd.ntmps13
      go_upto_region 1 with (fail)
      obtain ⟨gx, hgx⟩ : ∃ gx, w.heap.size = gx := ⟨_, rfl⟩
      rw [hgx]
      refine wp_world (Bx w gx b n) (by subst hgx; exact bx_new w b n) ?_
      clear hgx
      intro w1 HX
      have k0 := HX.c0
      have k1 := HX.c1
      have HB := Aside0.mk HX.2
      clear HX
      go_quiet (fail)
      go_wp2
      go_ret
      exact ⟨by rw [HE.out]; rfl, pw_below_drewN HB.out _⟩
    · obtain ⟨m, rfl⟩ := Int.eq_ofNat_of_zero_le (show 0 ≤ n by omega)
      have hm : m ≤ 32 := by omega
      have d0 : decide ((m : Int) < 0) = false := decide_eq_false h0
      have d1 : decide (32 < (m : Int)) = false := decide_eq_false h1
      have HM := Aside0.mk hm
      by_cases h2 : b % 2 ^ (32 - m) = 0
      · have HE : Aside0 (chk b m = 0) := ⟨by unfold chk; rw [if_pos ⟨by omega, by omega, by simpa using h2⟩]⟩
        have hq : (bits .andNot .u32 (b : Int) (maskK (32 - m) : Nat) != 0) = false := by rw [andNot_m hb hm, h2]; rfl
        clear h0 h1 h2 hm
        go_enter Tryd.func13, Tryd.ntmps13
        go_upto_region 1 with (fail)
        obtain ⟨gx, hgx⟩ : ∃ gx, w.heap.size = gx := ⟨_, rfl⟩
        rw [hgx]
        refine wp_world (Bx w gx b m) (by subst hgx; exact bx_new w b m) ?_
        clear hgx
        intro w1 HX
        have k0 := HX.c0
        have k1 := HX.c1
        have HB := Aside0.mk HX.2
        clear HX
        go_quiet ((go_at_call 32; exact Calls.quiet_of_same (mask_s m HM.out _)))
        go_wp2
        go_ret
        exact ⟨by rw [HE.out]; rfl, pw_below_drewN HB.out _⟩
      · have HE : Aside0 (chk b m = 1) := ⟨by unfold chk; rw [if_neg (fun h => h2 (by simpa using h.2.2))]⟩
        have hq : (bits .andNot .u32 (b : Int) (maskK (32 - m) : Nat) != 0) = true := by rw [andNot_m hb hm, bne_iff_ne]; omega
        clear h0 h1 h2 hm
        go_enter Tryd.func13, Tryd.ntmps13
        go_upto_region 1 with (fail)
        obtain ⟨gx, hgx⟩ : ∃ gx, w.heap.size = gx := ⟨_, rfl⟩
        rw [hgx]
        refine wp_world (Bx w gx b m) (by subst hgx; exact bx_new w b m) ?_
        clear hgx
        intro w1 HX
        have k0 := HX.c0
        have k1 := HX.c1
        have HB := Aside0.mk HX.2
        clear HX
        go_quiet ((go_at_call 32; exact Calls.quiet_of_same (mask_s m HM.out _)))
        go_wp2
        go_ret
        exact ⟨by rw [HE.out]; rfl, pw_below_drewN HB.out _⟩
theorem eq_ofnat (a b : Nat) : ((a : Int) == (b : Int)) = decide (a = b) := by
  by_cases h : a = b
  · subst h; simp
  · rw [decide_eq_false h, beq_eq_false_iff_ne]; omega
set_option maxHeartbeats 1600000 in
set_option maxRecDepth 100000 in
theorem within_calls (b : Nat) (n : Int) (a : Nat) (w : World) (hb : b < 4294967296) (ha : a < 4294967296) : Calls Tryd.prog 10 #[pv b n, .int .u32 a] w fun e w' => e = .returned (.bool (decide (Wit b n a))) ∧ Below w.heap.size w w' := by
  have HC := Aside0.mk hb
  by_cases hm : May b n
  · obtain ⟨m, rfl⟩ := Int.eq_ofNat_of_zero_le hm.1
    have HM : Aside0 (m ≤ 32) := ⟨by have := hm.2.1; omega⟩
    have hq : (bits .and .u32 (a : Int) (maskK (32 - m) : Nat) == (b : Int)) = decide (cutK a (32 - m) = b) := by rw [and_m ha HM.out, eq_ofnat]
    have HE : Aside0 (decide (Wit b m a) = decide (cutK a (32 - m) = b)) := ⟨by
      apply decide_eq_decide.2
      exact ⟨fun h => by simpa using h.2, fun h => ⟨hm, by simpa using h⟩⟩⟩
    have H0 : Aside0 (chk b m = 0) := ⟨by unfold chk; rw [if_pos hm]⟩
    obtain ⟨r, hr⟩ : ∃ r, decide (cutK a (32 - m) = b) = r := ⟨_, rfl⟩
    rw [hr] at hq HE
    clear hm hr hb ha
    go_enter Tryd.func10, Tryd.ntmps10
    go_upto_region 1 with (fail)
    obtain ⟨gx, hgx⟩ : ∃ gx, w.heap.size = gx := ⟨_, rfl⟩
    rw [hgx]
    refine wp_world (Bx w gx b m) (by subst hgx; exact bx_new w b m) ?_
    clear hgx
    intro w1 HX
    have k0 := HX.c0
    have k1 := HX.c1
    have HB := Aside0.mk HX.2
    clear HX
    go_region_held3 (fun W => (W.cell? ⟨gx, 0, none⟩ = some (.int .u32 b) ∧ W.cell? ⟨gx, 1, none⟩ = some (.int .i64 m)) ∧ Aside0 (Below w1.heap.size w1 W))
      ((first | (with_reducible assumption) | exact ⟨⟨k0, k1⟩, ⟨below_drew (Below.refl _ _)⟩⟩ | exact ⟨⟨k0, k1⟩, ⟨Below.refl _ _⟩⟩))
      (first
        | (go_at_call 13; (with_reducible refine (check_calls b m _ HC.out).mono ?_); rw [H0.out]; rintro e w' ⟨rfl, hb⟩; have hS' := keep_two (by with_reducible assumption) hb)
        | (go_at_call 32; (with_reducible refine (mask_b m HM.out _).mono ?_); rintro e w' ⟨rfl, hb⟩; have hS' := keep_two (by with_reducible assumption) hb))
    have HB2 := Aside0.mk (below_step HB.out hS'.2.out)
    clear hS' k0 k1 HB hq
    go_wp2
    go_ret
    exact ⟨by rw [HE.out]; rfl, HB2.out⟩
  · have HE : Aside0 (decide (Wit b n a) = false) := ⟨decide_eq_false (fun h => hm h.1)⟩
    have H0 : Aside0 (chk b n = 1) := ⟨by unfold chk; rw [if_neg hm]⟩
    clear hm hb ha
    go_enter Tryd.func10, Tryd.ntmps10
    go_upto_region 1 with (fail)
    obtain ⟨gx, hgx⟩ : ∃ gx, w.heap.size = gx := ⟨_, rfl⟩
    rw [hgx]
    refine wp_world (Bx w gx b n) (by subst hgx; exact bx_new w b n) ?_
    clear hgx
    intro w1 HX
    have k0 := HX.c0
    have k1 := HX.c1
    have HB := Aside0.mk HX.2
    clear HX
    refine wp_region_held_drew (S := fun W => (W.cell? ⟨gx, 0, none⟩ = some (.int .u32 b) ∧ W.cell? ⟨gx, 1, none⟩ = some (.int .i64 n)) ∧ Aside0 (Below w1.heap.size w1 W)) (by kernel_rfl) ⟨⟨k0, k1⟩, ⟨below_drew (Below.refl _ _)⟩⟩ (fun hHeld => ?_)
    refine wpAnyH_take (i := 0) (v := .agg #[.int .u32 b, .int .i64 n]) rfl (by kernel_rfl) (by kernel_rfl) (by kernel_rfl) (fun _ _ _ h => h) (Or.inl ⟨by kernel_rfl, fun w hSw => by (obtain ⟨⟨c0, c1⟩, _⟩ := hSw; go_simp)⟩) (by assumption) ?_
    simp only [Act.put, List.getElem_toArray, List.getElem_cons_succ, List.getElem_cons_zero, List.setIfInBounds_toArray, List.set_cons_zero, List.set_cons_succ]
    refine wpAnyH_ready (rs := [1]) (by kernel_rfl) (by simp) ?_
    refine AllReadyH.cons rfl (fun K hK => ?_) AllReadyH.nil
    go_simp
    go_at_call 13
    refine (check_calls b n _ HC.out).mono ?_
    rw [H0.out]
    rintro e w' ⟨rfl, hb⟩
    have hS' := keep_two hHeld hb
    go_wp2_with fail
    refine hK.out _ _ hS' (fun hHeld => ?_)
    refine wpAnyH_take (i := 2) (v := .bool false) rfl (by kernel_rfl) (by kernel_rfl) (by kernel_rfl) (fun _ _ _ h => h) (Or.inl ⟨by kernel_rfl, fun w hSw => by (go_simp)⟩) (by assumption) ?_
    simp only [Act.put, List.getElem_toArray, List.getElem_cons_succ, List.getElem_cons_zero, List.setIfInBounds_toArray, List.set_cons_zero, List.set_cons_succ]
    refine wpAnyH_take (i := 3) (v := .bool false) rfl (by kernel_rfl) (by kernel_rfl) (by kernel_rfl) (fun _ _ _ h => h) (Or.inl ⟨by kernel_rfl, fun w hSw => by (go_simp)⟩) (by assumption) ?_
    simp only [Act.put, List.getElem_toArray, List.getElem_cons_succ, List.getElem_cons_zero, List.setIfInBounds_toArray, List.set_cons_zero, List.set_cons_succ]
    refine wpAnyH_take (i := 4) (v := undef) rfl (by kernel_rfl) (by kernel_rfl) (by kernel_rfl) (fun _ _ _ h => h) (Or.inr ⟨by kernel_rfl, rfl⟩) (by assumption) ?_
    simp only [Act.put, List.getElem_toArray, List.getElem_cons_succ, List.getElem_cons_zero, List.setIfInBounds_toArray, List.set_cons_zero, List.set_cons_succ]
    refine wpAnyH_take (i := 5) (v := undef) rfl (by kernel_rfl) (by kernel_rfl) (by kernel_rfl) (fun _ _ _ h => h) (Or.inr ⟨by kernel_rfl, rfl⟩) (by assumption) ?_
    simp only [Act.put, List.getElem_toArray, List.getElem_cons_succ, List.getElem_cons_zero, List.setIfInBounds_toArray, List.set_cons_zero, List.set_cons_succ]
    refine wpAnyH_take (i := 6) (v := undef) rfl (by kernel_rfl) (by kernel_rfl) (by kernel_rfl) (fun _ _ _ h => h) (Or.inr ⟨by kernel_rfl, rfl⟩) (by assumption) ?_
    simp only [Act.put, List.getElem_toArray, List.getElem_cons_succ, List.getElem_cons_zero, List.setIfInBounds_toArray, List.set_cons_zero, List.set_cons_succ]
    refine wpAnyH_take (i := 7) (v := undef) rfl (by kernel_rfl) (by kernel_rfl) (by kernel_rfl) (fun _ _ _ h => h) (Or.inr ⟨by kernel_rfl, rfl⟩) (by assumption) ?_
    simp only [Act.put, List.getElem_toArray, List.getElem_cons_succ, List.getElem_cons_zero, List.setIfInBounds_toArray, List.set_cons_zero, List.set_cons_succ]
    refine wpAnyH_take (i := 8) (v := undef) rfl (by kernel_rfl) (by kernel_rfl) (by kernel_rfl) (fun _ _ _ h => h) (Or.inr ⟨by kernel_rfl, rfl⟩) (by assumption) ?_
    simp only [Act.put, List.getElem_toArray, List.getElem_cons_succ, List.getElem_cons_zero, List.setIfInBounds_toArray, List.set_cons_zero, List.set_cons_succ]
    refine wpAnyH_take (i := 9) (v := undef) rfl (by kernel_rfl) (by kernel_rfl) (by kernel_rfl) (fun _ _ _ h => h) (Or.inr ⟨by kernel_rfl, rfl⟩) (by assumption) ?_
    simp only [Act.put, List.getElem_toArray, List.getElem_cons_succ, List.getElem_cons_zero, List.setIfInBounds_toArray, List.set_cons_zero, List.set_cons_succ]
    refine wpAnyH_take (i := 10) (v := undef) rfl (by kernel_rfl) (by kernel_rfl) (by kernel_rfl) (fun _ _ _ h => h) (Or.inr ⟨by kernel_rfl, rfl⟩) (by assumption) ?_
    simp only [Act.put, List.getElem_toArray, List.getElem_cons_succ, List.getElem_cons_zero, List.setIfInBounds_toArray, List.set_cons_zero, List.set_cons_succ]
    refine wpAnyH_take (i := 11) (v := undef) rfl (by kernel_rfl) (by kernel_rfl) (by kernel_rfl) (fun _ _ _ h => h) (Or.inr ⟨by kernel_rfl, rfl⟩) (by assumption) ?_
    simp only [Act.put, List.getElem_toArray, List.getElem_cons_succ, List.getElem_cons_zero, List.setIfInBounds_toArray, List.set_cons_zero, List.set_cons_succ]
    refine wpAnyH_take (i := 12) (v := .bool false) rfl (by kernel_rfl) (by kernel_rfl) (by kernel_rfl) (fun _ _ _ h => h) (Or.inl ⟨by kernel_rfl, fun w hSw => by (go_simp)⟩) (by assumption) ?_
    simp only [Act.put, List.getElem_toArray, List.getElem_cons_succ, List.getElem_cons_zero, List.setIfInBounds_toArray, List.set_cons_zero, List.set_cons_succ]
    refine wpAnyH_take (i := 13) (v := .bool false) rfl (by kernel_rfl) (by kernel_rfl) (by kernel_rfl) (fun _ _ _ h => h) (Or.inl ⟨by kernel_rfl, fun w hSw => by (go_simp)⟩) (by assumption) ?_
    simp only [Act.put, List.getElem_toArray, List.getElem_cons_succ, List.getElem_cons_zero, List.setIfInBounds_toArray, List.set_cons_zero, List.set_cons_succ]
    refine wpAnyH_done (by kernel_rfl) ?_ _
    have HB2 := Aside0.mk (below_step HB.out hS'.2.out)
    clear hS' k0 k1 HB
    go_wp2
    go_ret
    exact ⟨by rw [HE.out]; rfl, HB2.out⟩
end Go.Proofs.YtagpkphehkfjgaaDoor.Px
