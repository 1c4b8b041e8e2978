/- Contracts of the tally's reading functions: for every input. -/
import Derived.Test.YthimnnnfgangbaaDoorTsA
import Derived.Deep.QuietTactic
import Derived.BigQuiet
set_option linter.unusedVariables false
set_option linter.unusedSimpArgs false
namespace Go.Proofs.YthimnnnfgangbaaDoor.Ts
open Go.RowKit Go.Proofs.YthimnnnfgangbaaDoorW.PrintWords Go.Proofs.YthimnnnfgangbaaDoorW.PrintLast Go.Proofs.YthimnnnfgangbaaDoorW.PrintMore Go.Proofs.YthimnnnfgangbaaDoor.Qr
theorem count_calls (g : Nat) (t : T) (w : World) (h : TL w g t) : Calls Tryd.prog 53 #[.pointer (some ⟨g, 0, none⟩)] w fun e w' => e = .returned (.int .u64 t.c) ∧ w = w' := by
  have h0 := h.c0
  clear h
  go_enter Tryd.func53, Tryd.ntmps53
  go_wp2
  go_ret
  exact ⟨rfl, rfl⟩
theorem count_nil (w : World) : Calls Tryd.prog 53 #[.pointer none] w fun e w' => e = .returned (.int .u64 (0 : Int)) ∧ w = w' := by
  go_enter Tryd.func53, Tryd.ntmps53
  go_wp2
  go_ret
  exact ⟨rfl, rfl⟩
theorem sum_calls (g : Nat) (t : T) (w : World) (h : TL w g t) : Calls Tryd.prog 54 #[.pointer (some ⟨g, 0, none⟩)] w fun e w' => e = .returned (.int .u64 t.s) ∧ w = w' := by
  have h0 := h.c1
  clear h
  go_enter Tryd.func54, Tryd.ntmps54
  go_wp2
  go_ret
  exact ⟨rfl, rfl⟩
theorem sum_nil (w : World) : Calls Tryd.prog 54 #[.pointer none] w fun e w' => e = .returned (.int .u64 (0 : Int)) ∧ w = w' := by
  go_enter Tryd.func54, Tryd.ntmps54
  go_wp2
  go_ret
  exact ⟨rfl, rfl⟩
theorem range_calls (g : Nat) (t : T) (w : World) (h : TL w g t) : Calls Tryd.prog 60 #[.pointer (some ⟨g, 0, none⟩)] w fun e w' => e = .returned (.tuple #[.int .u64 t.l, .int .u64 t.m]) ∧ Below w.heap.size w w' := by
  have h2 := h.c2
  have h3 := h.c3
  clear h
  go_enter Tryd.func60, Tryd.ntmps60
  go_wp2_with fail
  go_quiet (fail)
  go_wp2
  go_ret2
  exact ⟨rfl, pw_below_drewN (Below.refl _ _) _⟩
theorem range_nil (w : World) : Calls Tryd.prog 60 #[.pointer none] w fun e w' => e = .returned (.tuple #[.int .u64 (0 : Int), .int .u64 (0 : Int)]) ∧ Below w.heap.size w w' := by
  go_enter Tryd.func60, Tryd.ntmps60
  go_wp2
  go_ret2
  exact ⟨rfl, Below.refl _ _⟩
theorem step_calls (g : Nat) (t : T) (k : Nat) (hk : k < 65) (w : World) (h : TL w g t) : Calls Tryd.prog 55 #[.pointer (some ⟨g, 0, none⟩), .int .i64 k] w fun e w' => e = .returned (.int .u64 (t.st.getD k 0)) ∧ w = w' := by
  have h0 := h.ck hk
  have k1 : (k : Int) < 65 := by omega
  have k2 : ¬ (k : Int) < 0 := by omega
  clear h
  go_enter Tryd.func55, Tryd.ntmps55
  go_wp2
  go_ret
  exact ⟨rfl, rfl⟩
theorem step_out (p : Option Addr) (k : Int) (hk : k < 0 ∨ 65 ≤ k) (w : World) : Calls Tryd.prog 55 #[.pointer p, .int .i64 k] w fun e w' => e = .returned (.int .u64 (0 : Int)) ∧ w = w' := by
  cases p with
  | none =>
    clear hk
    go_enter Tryd.func55, Tryd.ntmps55
    go_wp2
    go_ret
    exact ⟨rfl, rfl⟩
  | some a =>
    by_cases k1 : k < 0
    · clear hk
      go_enter Tryd.func55, Tryd.ntmps55
      go_wp2
      go_ret
      exact ⟨rfl, rfl⟩
    · have k2 : 65 ≤ k := by omega
      clear hk
      go_enter Tryd.func55, Tryd.ntmps55
      go_wp2
      go_ret
      exact ⟨rfl, rfl⟩
theorem step_nil (k : Int) (w : World) : Calls Tryd.prog 55 #[.pointer none, .int .i64 k] w fun e w' => e = .returned (.int .u64 (0 : Int)) ∧ w = w' := by
  go_enter Tryd.func55, Tryd.ntmps55
  go_wp2
  go_ret
  exact ⟨rfl, rfl⟩
/-- The greatest number of a step. -/
def endN (k : Nat) : Nat := 2 ^ k - 1
theorem end_shl : ∀ k : Fin 64, IntKind.u64.wrap (IntKind.u64.wrap (2 ^ k.1) - 1) = ((2 ^ k.1 - 1 : Nat) : Int) := by decide
theorem end_calls (k : Nat) (hk : k ≤ 64) (w : World) : Calls Tryd.prog 75 #[.int .i64 k] w fun e w' => e = .returned (.int .u64 (endN k)) ∧ w = w' := by
  by_cases h : k = 64
  · subst h
    go_enter Tryd.func75, Tryd.ntmps75
    go_wp2
    go_ret
    exact ⟨rfl, rfl⟩
  · have k1 : ¬ (k : Int) < 0 := by omega
    have k2 : ¬ ((k : Int) = 64) := by omega
    have k3 := end_shl ⟨k, by omega⟩
    have K3 := Aside0.mk k3
    clear h k3
    go_enter Tryd.func75, Tryd.ntmps75
    go_wp2
    go_ret
    exact ⟨congrArg (fun z => Ending.returned (.int .u64 z)) K3.out, rfl⟩
theorem enough_calls (a b p : Nat) (ha : a < 18446744073709551616) (hb : b < 18446744073709551616) (hp : p ≤ 100) (w : World) : Calls Tryd.prog 74 #[.int .u64 a, .int .u64 b, .int .i64 p] w fun e w' => e = .returned (.bool (decide (b * p ≤ a * 100))) ∧ w = w' := by
  obtain ⟨x1, hx1⟩ : ∃ x, a * 100 / 18446744073709551616 = x := ⟨_, rfl⟩
  obtain ⟨x2, hx2⟩ : ∃ x, a * 100 % 18446744073709551616 = x := ⟨_, rfl⟩
  obtain ⟨y1, hy1⟩ : ∃ x, b * p / 18446744073709551616 = x := ⟨_, rfl⟩
  obtain ⟨y2, hy2⟩ : ∃ x, b * p % 18446744073709551616 = x := ⟨_, rfl⟩
  have m1 : ∀ W, Calls Tryd.prog 88 #[.int .u64 a, .int .u64 (100 : Int)] W fun e w' => e = .returned (.tuple #[.int .u64 x1, .int .u64 x2]) ∧ w' = W := fun W => by
    have := Tryd.bits_Mul64 a 100 ha (by omega) W
    rw [hx1, hx2] at this
    exact this
  have m2 : ∀ W, Calls Tryd.prog 88 #[.int .u64 b, .int .u64 p] W fun e w' => e = .returned (.tuple #[.int .u64 y1, .int .u64 y2]) ∧ w' = W := fun W => by
    have := Tryd.bits_Mul64 b p hb (by omega) W
    rw [hy1, hy2] at this
    exact this
  have M1 := Aside0.mk m1
  have M2 := Aside0.mk m2
  have key : (b * p ≤ a * 100) ↔ (y1 < x1 ∨ (x1 = y1 ∧ y2 ≤ x2)) := by omega
  have KEY := Aside0.mk key
  have p0 : (0 : Int) ≤ p := by omega
  have p1 : (p : Int) ≤ 100 := by omega
  clear m1 m2 hx1 hx2 hy1 hy2 ha hb hp key
  by_cases c1 : y1 < x1
  · have d1 : (y1 : Int) < x1 := by omega
    have HR : decide (b * p ≤ a * 100) = true := by rw [decide_eq_true_iff, KEY.out]; exact .inl c1
    rw [HR]
    clear HR c1
    go_enter Tryd.func74, Tryd.ntmps74
    go_wp2_with (first | (go_at_call 88; (with_reducible refine (M1.out _).mono ?_); rintro e w' ⟨rfl, rfl⟩) | (go_at_call 88; (with_reducible refine (M2.out _).mono ?_); rintro e w' ⟨rfl, rfl⟩))
    go_ret
    exact ⟨rfl, rfl⟩
  · have d1 : decide (y1 < x1) = false := decide_eq_false c1
    by_cases c2 : x1 = y1
    · by_cases c3 : y2 ≤ x2
      · have d3 : (y2 : Int) ≤ x2 := by omega
        have HR : decide (b * p ≤ a * 100) = true := by rw [decide_eq_true_iff, KEY.out]; exact .inr ⟨c2, c3⟩
        rw [HR]
        subst c2
        clear HR c1 c3
        go_enter Tryd.func74, Tryd.ntmps74
        go_wp2_with (first | (go_at_call 88; (with_reducible refine (M1.out _).mono ?_); rintro e w' ⟨rfl, rfl⟩) | (go_at_call 88; (with_reducible refine (M2.out _).mono ?_); rintro e w' ⟨rfl, rfl⟩))
        go_ret
        exact ⟨rfl, rfl⟩
      · have d3 : decide (y2 ≤ x2) = false := decide_eq_false c3
        have HR : decide (b * p ≤ a * 100) = false := by rw [decide_eq_false_iff_not, KEY.out]; rintro (h | ⟨_, h⟩) <;> omega
        rw [HR]
        subst c2
        clear HR c1 c3
        go_enter Tryd.func74, Tryd.ntmps74
        go_wp2_with (first | (go_at_call 88; (with_reducible refine (M1.out _).mono ?_); rintro e w' ⟨rfl, rfl⟩) | (go_at_call 88; (with_reducible refine (M2.out _).mono ?_); rintro e w' ⟨rfl, rfl⟩))
        go_ret
        exact ⟨rfl, rfl⟩
    · have d2 : ((x1 : Int) == y1) = false := by simp; omega
      have HR : decide (b * p ≤ a * 100) = false := by rw [decide_eq_false_iff_not, KEY.out]; rintro (h | ⟨h, _⟩) <;> omega
      rw [HR]
      clear HR c1 c2
      go_enter Tryd.func74, Tryd.ntmps74
      go_wp2_with (first | (go_at_call 88; (with_reducible refine (M1.out _).mono ?_); rintro e w' ⟨rfl, rfl⟩) | (go_at_call 88; (with_reducible refine (M2.out _).mono ?_); rintro e w' ⟨rfl, rfl⟩))
      go_ret
      exact ⟨rfl, rfl⟩
end Go.Proofs.YthimnnnfgangbaaDoor.Ts
