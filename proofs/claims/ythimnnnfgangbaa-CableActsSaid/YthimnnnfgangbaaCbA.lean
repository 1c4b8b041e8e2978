/- Contracts of the cable's small functions: is, side, Up, Ends, Cost, To, for every input. -/
import Derived.Test.YthimnnnfgangbaaQvT
import Derived.LoopN
set_option linter.unusedVariables false
set_option linter.unusedSimpArgs false
namespace Go.Proofs.Ythimnnnfgangbaa.Cb
open Go.RowKit Go.Proofs.YthimnnnfgangbaaW.PrintWords Go.Proofs.YthimnnnfgangbaaW.PrintLast Go.Proofs.YthimnnnfgangbaaW.PrintMore Go.Proofs.Ythimnnnfgangbaa.Qu

/-- A cable at block g: its ends, whether it is up, what it costs, its two queues. -/
def CB (w : World) (g : Nat) (a b : Int) (up : Bool) (c0 c1 : Int) (p0 p1 : Option Addr) : Prop :=
  w.heap[g]? = some (.cells #[.int .i64 a, .int .i64 b, .bool up, .int .i64 c0, .int .i64 c1, .pointer p0, .pointer p1] 29 (0, 0))
theorem CB.below {w w' : World} {g : Nat} {a b : Int} {up : Bool} {c0 c1 : Int} {p0 p1 : Option Addr} (h : CB w g a b up c0 c1 p0 p1) (hb : Below w.heap.size w w') : CB w' g a b up c0 c1 p0 p1 := blk_below h hb
/-- Which end a node is. -/
def sideF (a b of_ : Int) : Int := if a = of_ then 0 else if b = of_ then 1 else -1

set_option maxHeartbeats 400000 in
set_option maxRecDepth 100000 in
theorem is_none (w : World) : Calls Try.prog 22 #[.pointer none] w fun e w' => e = .returned (.bool false) ∧ w' = w := by
  go_enter Try.func22, Try.ntmps22
  go_wp2
  go_ret
  exact ⟨rfl, rfl⟩
set_option maxHeartbeats 400000 in
set_option maxRecDepth 100000 in
theorem is_bare (g : Nat) (a b : Int) (up : Bool) (c0 c1 : Int) (p1 : Option Addr) (w : World) (h : CB w g a b up c0 c1 none p1) : Calls Try.prog 22 #[.pointer (some ⟨g, 0, none⟩)] w fun e w' => e = .returned (.bool false) ∧ w' = w := by
  have c5 := blk_cell h 5
  clear h
  simp at c5
  go_enter Try.func22, Try.ntmps22
  go_wp2
  go_ret
  exact ⟨rfl, rfl⟩
set_option maxHeartbeats 400000 in
set_option maxRecDepth 100000 in
theorem is_yes (g : Nat) (a b : Int) (up : Bool) (c0 c1 : Int) (p : Addr) (p1 : Option Addr) (w : World) (h : CB w g a b up c0 c1 (some p) p1) : Calls Try.prog 22 #[.pointer (some ⟨g, 0, none⟩)] w fun e w' => e = .returned (.bool true) ∧ w' = w := by
  have c5 := blk_cell h 5
  clear h
  simp at c5
  go_enter Try.func22, Try.ntmps22
  go_wp2
  go_ret
  exact ⟨rfl, rfl⟩
set_option maxHeartbeats 400000 in
set_option maxRecDepth 100000 in
theorem side_none (of_ : Int) (w : World) : Calls Try.prog 23 #[.pointer none, .int .i64 of_] w fun e w' => e = .returned (.int .i64 (-1)) ∧ w' = w := by
  go_enter Try.func23, Try.ntmps23
  go_wp2_with fail
  refine (is_none _).mono ?_
  rintro e w1 ⟨rfl, rfl⟩
  go_wp2
  go_ret
  exact ⟨rfl, rfl⟩
set_option maxHeartbeats 400000 in
set_option maxRecDepth 100000 in
theorem side_bare (g : Nat) (a b : Int) (up : Bool) (c0 c1 : Int) (p1 : Option Addr) (of_ : Int) (w : World) (h : CB w g a b up c0 c1 none p1) : Calls Try.prog 23 #[.pointer (some ⟨g, 0, none⟩), .int .i64 of_] w fun e w' => e = .returned (.int .i64 (-1)) ∧ w' = w := by
  have H := Aside0.mk h
  clear h
  go_enter Try.func23, Try.ntmps23
  go_wp2_with fail
  refine (is_bare g a b up c0 c1 p1 _ H.out).mono ?_
  rintro e w1 ⟨rfl, rfl⟩
  go_wp2
  go_ret
  exact ⟨rfl, rfl⟩
theorem index25_0 (x y : Value) (w : World) : (Instr.index 25 (.agg #[x, y]) (.int .i64 0)).run Try.prog w = .ok x w := by kernel_rfl
theorem index25_1 (x y : Value) (w : World) : (Instr.index 25 (.agg #[x, y]) (.int .i64 1)).run Try.prog w = .ok y w := by kernel_rfl
set_option maxHeartbeats 800000 in
set_option maxRecDepth 100000 in
theorem side_yes (g : Nat) (a b : Int) (up : Bool) (c0 c1 : Int) (p : Addr) (p1 : Option Addr) (of_ : Int) (w : World) (h : CB w g a b up c0 c1 (some p) p1) : Calls Try.prog 23 #[.pointer (some ⟨g, 0, none⟩), .int .i64 of_] w fun e w' => e = .returned (.int .i64 (sideF a b of_)) ∧ w' = w := by
  have H := Aside0.mk h
  have k0 := blk_cell h 0
  have k1 := blk_cell h 1
  clear h
  simp at k0 k1
  have j0 := fun w => index25_0 (.int .i64 a) (.int .i64 b) w
  have j1 := fun w => index25_1 (.int .i64 a) (.int .i64 b) w
  by_cases h0 : a = of_
  · subst h0
    have hs : Aside0 (sideF a b a = 0) := ⟨by unfold sideF; rw [if_pos rfl]⟩
    rw [hs.out]
    go_enter Try.func23, Try.ntmps23
    go_wp2_with fail
    refine (is_yes g a b up c0 c1 p p1 _ H.out).mono ?_
    rintro e w1 ⟨rfl, rfl⟩
    go_wp2_with fail
    refine wp_loop_rounds 3 ?_
    rw [rounds_succ]
    go_wp2
    go_ret
    exact ⟨rfl, rfl⟩
  · by_cases h1 : b = of_
    · subst h1
      have hs : Aside0 (sideF a b b = 1) := ⟨by unfold sideF; rw [if_neg h0, if_pos rfl]⟩
      rw [hs.out]
      go_enter Try.func23, Try.ntmps23
      go_wp2_with fail
      refine (is_yes g a b up c0 c1 p p1 _ H.out).mono ?_
      rintro e w1 ⟨rfl, rfl⟩
      go_wp2_with fail
      refine wp_loop_rounds 3 ?_
      rw [rounds_succ]
      go_wp2
      rw [rounds_succ]
      go_wp2
      go_ret
      exact ⟨rfl, rfl⟩
    · have hs : Aside0 (sideF a b of_ = -1) := ⟨by unfold sideF; rw [if_neg h0, if_neg h1]⟩
      rw [hs.out]
      go_enter Try.func23, Try.ntmps23
      go_wp2_with fail
      refine (is_yes g a b up c0 c1 p p1 _ H.out).mono ?_
      rintro e w1 ⟨rfl, rfl⟩
      go_wp2_with fail
      refine wp_loop_rounds 3 ?_
      rw [rounds_succ]
      go_wp2
      rw [rounds_succ]
      go_wp2
      rw [rounds_succ]
      go_wp2
      go_ret
      exact ⟨rfl, rfl⟩
set_option maxHeartbeats 800000 in
set_option maxRecDepth 100000 in
theorem ends_none (w : World) : Calls Try.prog 6 #[.pointer none] w fun e w' => e = .returned (.tuple #[.int .i64 0, .int .i64 0]) ∧ w' = w := by
  go_enter Try.func6, Try.ntmps6
  go_wp2_with fail
  refine (is_none _).mono ?_
  rintro e w1 ⟨rfl, rfl⟩
  go_wp2
  go_ret2
  exact ⟨rfl, rfl⟩
set_option maxHeartbeats 800000 in
set_option maxRecDepth 100000 in
theorem ends_bare (g : Nat) (a b : Int) (up : Bool) (c0 c1 : Int) (p1 : Option Addr) (w : World) (h : CB w g a b up c0 c1 none p1) : Calls Try.prog 6 #[.pointer (some ⟨g, 0, none⟩)] w fun e w' => e = .returned (.tuple #[.int .i64 0, .int .i64 0]) ∧ w' = w := by
  have H := Aside0.mk h
  clear h
  go_enter Try.func6, Try.ntmps6
  go_wp2_with fail
  refine (is_bare g a b up c0 c1 p1 _ H.out).mono ?_
  rintro e w1 ⟨rfl, rfl⟩
  go_wp2
  go_ret2
  exact ⟨rfl, rfl⟩
set_option maxHeartbeats 800000 in
set_option maxRecDepth 100000 in
theorem up_none (w : World) : Calls Try.prog 7 #[.pointer none] w fun e w' => e = .returned (.bool false) ∧ w' = w := by
  go_enter Try.func7, Try.ntmps7
  go_wp2_with fail
  refine (is_none _).mono ?_
  rintro e w1 ⟨rfl, rfl⟩
  go_wp2
  go_ret
  exact ⟨rfl, rfl⟩
set_option maxHeartbeats 800000 in
set_option maxRecDepth 100000 in
theorem up_bare (g : Nat) (a b : Int) (up : Bool) (c0 c1 : Int) (p1 : Option Addr) (w : World) (h : CB w g a b up c0 c1 none p1) : Calls Try.prog 7 #[.pointer (some ⟨g, 0, none⟩)] w fun e w' => e = .returned (.bool false) ∧ w' = w := by
  have H := Aside0.mk h
  clear h
  go_enter Try.func7, Try.ntmps7
  go_wp2_with fail
  refine (is_bare g a b up c0 c1 p1 _ H.out).mono ?_
  rintro e w1 ⟨rfl, rfl⟩
  go_wp2
  go_ret
  exact ⟨rfl, rfl⟩
set_option maxHeartbeats 800000 in
set_option maxRecDepth 100000 in
theorem cost_none (of_ : Int) (w : World) : Calls Try.prog 8 #[.pointer none, .int .i64 of_] w fun e w' => e = .returned (.int .i64 0) ∧ w' = w := by
  go_enter Try.func8, Try.ntmps8
  go_wp2_with fail
  refine (side_none of_ _).mono ?_
  rintro e w1 ⟨rfl, rfl⟩
  go_wp2
  go_ret
  exact ⟨rfl, rfl⟩
set_option maxHeartbeats 800000 in
set_option maxRecDepth 100000 in
theorem cost_bare (g : Nat) (a b : Int) (up : Bool) (c0 c1 : Int) (p1 : Option Addr) (of_ : Int) (w : World) (h : CB w g a b up c0 c1 none p1) : Calls Try.prog 8 #[.pointer (some ⟨g, 0, none⟩), .int .i64 of_] w fun e w' => e = .returned (.int .i64 0) ∧ w' = w := by
  have H := Aside0.mk h
  clear h
  go_enter Try.func8, Try.ntmps8
  go_wp2_with fail
  refine (side_bare g a b up c0 c1 p1 of_ _ H.out).mono ?_
  rintro e w1 ⟨rfl, rfl⟩
  go_wp2
  go_ret
  exact ⟨rfl, rfl⟩
set_option maxHeartbeats 800000 in
set_option maxRecDepth 100000 in
theorem send_none (of_ : Int) (v : Value) (w : World) : Calls Try.prog 10 #[.pointer none, .int .i64 of_, v] w fun e w' => e = .returned (.int .i64 6) ∧ w' = w := by
  go_enter Try.func10, Try.ntmps10
  go_wp2_with fail
  refine (is_none _).mono ?_
  rintro e w1 ⟨rfl, rfl⟩
  go_wp2
  go_ret
  exact ⟨rfl, rfl⟩
set_option maxHeartbeats 800000 in
set_option maxRecDepth 100000 in
theorem send_bare (g : Nat) (a b : Int) (up : Bool) (c0 c1 : Int) (p1 : Option Addr) (of_ : Int) (v : Value) (w : World) (h : CB w g a b up c0 c1 none p1) : Calls Try.prog 10 #[.pointer (some ⟨g, 0, none⟩), .int .i64 of_, v] w fun e w' => e = .returned (.int .i64 6) ∧ w' = w := by
  have H := Aside0.mk h
  clear h
  go_enter Try.func10, Try.ntmps10
  go_wp2_with fail
  refine (is_bare g a b up c0 c1 p1 _ H.out).mono ?_
  rintro e w1 ⟨rfl, rfl⟩
  go_wp2
  go_ret
  exact ⟨rfl, rfl⟩
set_option maxHeartbeats 800000 in
set_option maxRecDepth 100000 in
theorem to_none (of_ : Int) (w : World) : Calls Try.prog 11 #[.pointer none, .int .i64 of_] w fun e w' => e = .returned (.pointer none) ∧ w' = w := by
  go_enter Try.func11, Try.ntmps11
  go_wp2_with fail
  refine (side_none of_ _).mono ?_
  rintro e w1 ⟨rfl, rfl⟩
  go_wp2
  go_ret
  exact ⟨rfl, rfl⟩
set_option maxHeartbeats 800000 in
set_option maxRecDepth 100000 in
theorem to_bare (g : Nat) (a b : Int) (up : Bool) (c0 c1 : Int) (p1 : Option Addr) (of_ : Int) (w : World) (h : CB w g a b up c0 c1 none p1) : Calls Try.prog 11 #[.pointer (some ⟨g, 0, none⟩), .int .i64 of_] w fun e w' => e = .returned (.pointer none) ∧ w' = w := by
  have H := Aside0.mk h
  clear h
  go_enter Try.func11, Try.ntmps11
  go_wp2_with fail
  refine (side_bare g a b up c0 c1 p1 of_ _ H.out).mono ?_
  rintro e w1 ⟨rfl, rfl⟩
  go_wp2
  go_ret
  exact ⟨rfl, rfl⟩
set_option maxHeartbeats 800000 in
set_option maxRecDepth 100000 in
theorem up_yes (g : Nat) (a b : Int) (up : Bool) (c0 c1 : Int) (p : Addr) (p1 : Option Addr) (w : World) (h : CB w g a b up c0 c1 (some p) p1) : Calls Try.prog 7 #[.pointer (some ⟨g, 0, none⟩)] w fun e w' => e = .returned (.bool up) ∧ w' = w := by
  have k2 := blk_cell h 2
  have H := Aside0.mk h
  clear h
  simp at k2
  go_enter Try.func7, Try.ntmps7
  go_wp2_with fail
  refine (is_yes g a b up c0 c1 p p1 _ H.out).mono ?_
  rintro e w1 ⟨rfl, rfl⟩
  go_wp2
  go_ret
  exact ⟨rfl, rfl⟩
set_option maxHeartbeats 800000 in
set_option maxRecDepth 100000 in
theorem ends_yes (g : Nat) (a b : Int) (up : Bool) (c0 c1 : Int) (p : Addr) (p1 : Option Addr) (w : World) (h : CB w g a b up c0 c1 (some p) p1) : Calls Try.prog 6 #[.pointer (some ⟨g, 0, none⟩)] w fun e w' => e = .returned (.tuple #[.int .i64 a, .int .i64 b]) ∧ Drawn0 w w' := by
  have k0 := blk_cell h 0
  have k1 := blk_cell h 1
  have H := Aside0.mk h
  clear h
  simp at k0 k1
  go_enter Try.func6, Try.ntmps6
  go_wp2_with fail
  refine (is_yes g a b up c0 c1 p p1 _ H.out).mono ?_
  rintro e w1 ⟨rfl, rfl⟩
  go_wp2_with fail
  go_quiet (fail)
  go_wp2
  go_ret2
  exact ⟨rfl, (Drawn0.refl _).step _⟩

/-- What it costs a node. -/
def costF (a b : Int) (up : Bool) (c0 c1 of_ : Int) : Int := if up = true then (if a = of_ then c0 else if b = of_ then c1 else 0) else 0
set_option maxHeartbeats 800000 in
set_option maxRecDepth 100000 in
theorem cost_yes (g : Nat) (a b : Int) (up : Bool) (c0 c1 : Int) (p : Addr) (p1 : Option Addr) (of_ : Int) (w : World) (h : CB w g a b up c0 c1 (some p) p1) : Calls Try.prog 8 #[.pointer (some ⟨g, 0, none⟩), .int .i64 of_] w fun e w' => e = .returned (.int .i64 (costF a b up c0 c1 of_)) ∧ w' = w := by
  have k2 := blk_cell h 2
  have k3 := blk_cell h 3
  have k4 := blk_cell h 4
  have H := Aside0.mk h
  clear h
  simp at k2 k3 k4
  by_cases h0 : a = of_
  · have hs : Aside0 (sideF a b of_ = 0) := ⟨by unfold sideF; rw [if_pos h0]⟩
    cases up
    · have hr : Aside0 (costF a b false c0 c1 of_ = 0) := ⟨rfl⟩
      rw [hr.out]
      clear h0
      go_enter Try.func8, Try.ntmps8
      go_wp2_with fail
      refine (side_yes g a b false c0 c1 p p1 of_ _ H.out).mono ?_
      rw [hs.out]
      rintro e w1 ⟨rfl, rfl⟩
      go_wp2
      go_ret
      exact ⟨rfl, rfl⟩
    · have hr : Aside0 (costF a b true c0 c1 of_ = c0) := ⟨by unfold costF; rw [if_pos rfl, if_pos h0]⟩
      rw [hr.out]
      clear h0
      go_enter Try.func8, Try.ntmps8
      go_wp2_with fail
      refine (side_yes g a b true c0 c1 p p1 of_ _ H.out).mono ?_
      rw [hs.out]
      rintro e w1 ⟨rfl, rfl⟩
      go_wp2
      go_ret
      exact ⟨rfl, rfl⟩
  · by_cases h1 : b = of_
    · have hs : Aside0 (sideF a b of_ = 1) := ⟨by unfold sideF; rw [if_neg h0, if_pos h1]⟩
      cases up
      · have hr : Aside0 (costF a b false c0 c1 of_ = 0) := ⟨rfl⟩
        rw [hr.out]
        clear h0 h1
        go_enter Try.func8, Try.ntmps8
        go_wp2_with fail
        refine (side_yes g a b false c0 c1 p p1 of_ _ H.out).mono ?_
        rw [hs.out]
        rintro e w1 ⟨rfl, rfl⟩
        go_wp2
        go_ret
        exact ⟨rfl, rfl⟩
      · have hr : Aside0 (costF a b true c0 c1 of_ = c1) := ⟨by unfold costF; rw [if_pos rfl, if_neg h0, if_pos h1]⟩
        rw [hr.out]
        clear h0 h1
        go_enter Try.func8, Try.ntmps8
        go_wp2_with fail
        refine (side_yes g a b true c0 c1 p p1 of_ _ H.out).mono ?_
        rw [hs.out]
        rintro e w1 ⟨rfl, rfl⟩
        go_wp2
        go_ret
        exact ⟨rfl, rfl⟩
    · have hs : Aside0 (sideF a b of_ = -1) := ⟨by unfold sideF; rw [if_neg h0, if_neg h1]⟩
      have hr : Aside0 (costF a b up c0 c1 of_ = 0) := ⟨by unfold costF; rw [if_neg h0, if_neg h1]; split <;> rfl⟩
      rw [hr.out]
      clear h0 h1
      go_enter Try.func8, Try.ntmps8
      go_wp2_with fail
      refine (side_yes g a b up c0 c1 p p1 of_ _ H.out).mono ?_
      rw [hs.out]
      rintro e w1 ⟨rfl, rfl⟩
      go_wp2
      go_ret
      exact ⟨rfl, rfl⟩
/-- The queue of a node. -/
def toF (a b : Int) (p p1 : Option Addr) (of_ : Int) : Option Addr := if a = of_ then p else if b = of_ then p1 else none
set_option maxHeartbeats 800000 in
set_option maxRecDepth 100000 in
theorem to_yes (g : Nat) (a b : Int) (up : Bool) (c0 c1 : Int) (p : Addr) (p1 : Option Addr) (of_ : Int) (w : World) (h : CB w g a b up c0 c1 (some p) p1) : Calls Try.prog 11 #[.pointer (some ⟨g, 0, none⟩), .int .i64 of_] w fun e w' => e = .returned (.pointer (toF a b (some p) p1 of_)) ∧ w' = w := by
  have k5 := blk_cell h 5
  have k6 := blk_cell h 6
  have H := Aside0.mk h
  clear h
  simp at k5 k6
  by_cases h0 : a = of_
  · have hs : Aside0 (sideF a b of_ = 0) := ⟨by unfold sideF; rw [if_pos h0]⟩
    have hr : Aside0 (toF a b (some p) p1 of_ = some p) := ⟨by unfold toF; rw [if_pos h0]⟩
    rw [hr.out]
    clear h0
    go_enter Try.func11, Try.ntmps11
    go_wp2_with fail
    refine (side_yes g a b up c0 c1 p p1 of_ _ H.out).mono ?_
    rw [hs.out]
    rintro e w1 ⟨rfl, rfl⟩
    go_wp2
    go_ret
    exact ⟨rfl, rfl⟩
  · by_cases h1 : b = of_
    · have hs : Aside0 (sideF a b of_ = 1) := ⟨by unfold sideF; rw [if_neg h0, if_pos h1]⟩
      have hr : Aside0 (toF a b (some p) p1 of_ = p1) := ⟨by unfold toF; rw [if_neg h0, if_pos h1]⟩
      rw [hr.out]
      clear h0 h1
      go_enter Try.func11, Try.ntmps11
      go_wp2_with fail
      refine (side_yes g a b up c0 c1 p p1 of_ _ H.out).mono ?_
      rw [hs.out]
      rintro e w1 ⟨rfl, rfl⟩
      go_wp2
      go_ret
      exact ⟨rfl, rfl⟩
    · have hs : Aside0 (sideF a b of_ = -1) := ⟨by unfold sideF; rw [if_neg h0, if_neg h1]⟩
      have hr : Aside0 (toF a b (some p) p1 of_ = none) := ⟨by unfold toF; rw [if_neg h0, if_neg h1]⟩
      rw [hr.out]
      clear h0 h1
      go_enter Try.func11, Try.ntmps11
      go_wp2_with fail
      refine (side_yes g a b up c0 c1 p p1 of_ _ H.out).mono ?_
      rw [hs.out]
      rintro e w1 ⟨rfl, rfl⟩
      go_wp2
      go_ret
      exact ⟨rfl, rfl⟩
end Go.Proofs.Ythimnnnfgangbaa.Cb
