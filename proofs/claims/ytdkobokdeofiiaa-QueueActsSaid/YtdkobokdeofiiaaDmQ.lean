/- Plain facts on the damp functions, for every input. -/
import Derived.Test.YtdkobokdeofiiaaDmD
set_option linter.unusedVariables false
set_option linter.unusedSimpArgs false
namespace Go.Proofs.Ytdkobokdeofiiaa.Dm
open Go.RowKit Go.Proofs.YtdkobokdeofiiaaW.PrintWords Go.Proofs.YtdkobokdeofiiaaW.PrintLast Go.Proofs.YtdkobokdeofiiaaW.PrintMore
theorem pow_cast (m : Nat) : (2:Int)^m = ((2^m : Nat) : Int) := by simp
theorem pow_pos' (m : Nat) : (0:Int) < 2^m := by rw [pow_cast]; have := Nat.two_pow_pos m; omega
theorem div_zero' (a : Int) (m : Nat) (h0 : 0 ≤ a) (h1 : a ≤ 8000) (hm : 13 ≤ m) : a / 2^m = 0 := by
  apply Int.ediv_eq_zero_of_lt h0
  rw [pow_cast]
  have : 2^13 ≤ 2^m := Nat.pow_le_pow_right (by decide) hm
  omega
theorem div_div' (a : Int) (m n : Nat) : a / 2^m / 2^n = a / 2^(m+n) := by
  rw [Int.ediv_ediv_of_nonneg (Int.le_of_lt (pow_pos' m)), Int.pow_add]
theorem div_two' (a : Int) (m : Nat) : a / 2 / 2^m = a / 2^(m+1) := by
  have := div_div' a 1 m
  rw [Nat.add_comm]; simpa using this
theorem div_le' (a : Int) (m : Nat) (h0 : 0 ≤ a) : 0 ≤ a / 2^m ∧ a / 2^m ≤ a := ⟨Int.ediv_nonneg h0 (Int.le_of_lt (pow_pos' m)), Int.ediv_le_self _ h0⟩
theorem div_anti (a : Int) (m n : Nat) (h0 : 0 ≤ a) (h : m ≤ n) : a / 2^n ≤ a / 2^m := by
  obtain ⟨d, rfl⟩ : ∃ d, n = m + d := ⟨n - m, by omega⟩
  rw [← div_div']
  exact (div_le' _ d (div_le' a m h0).1).2

theorem check_ok (a : Int) (b : Bool) (c : Int) (h0 : 0 ≤ a) (h1 : a ≤ 8000) (h2 : 0 ≤ c) (h4 : c ≤ 1099511627776) : damp_Check.f a b c = some 0 := by
  unfold damp_Check.f
  rw [if_neg (by omega), if_neg (by omega), if_neg (by omega), if_neg (by omega)]
theorem check_no (a : Int) (b : Bool) (c : Int) (h : ¬ (0 ≤ a ∧ a ≤ 8000 ∧ 0 ≤ c ∧ c ≤ 1099511627776)) : damp_Check.f a b c = some 1 := by
  unfold damp_Check.f
  by_cases g1 : a < 0
  · rw [if_pos g1]
  by_cases g2 : a > 8000
  · rw [if_neg g1, if_pos g2]
  by_cases g3 : c < 0
  · rw [if_neg g1, if_neg g2, if_pos g3]
  rw [if_neg g1, if_neg g2, if_neg g3, if_pos (by omega)]
theorem may_ok (a : Int) (b : Bool) (c : Int) (h0 : 0 ≤ a) (h1 : a ≤ 8000) (h2 : 0 ≤ c) (h4 : c ≤ 1099511627776) : waymarkref54_May.f a b c = some true := by
  unfold waymarkref54_May.f
  rw [if_pos (by omega), if_pos h1, if_pos (by omega)]
  simp [h4]
theorem may_no (a : Int) (b : Bool) (c : Int) (h : ¬ (0 ≤ a ∧ a ≤ 8000 ∧ 0 ≤ c ∧ c ≤ 1099511627776)) : waymarkref54_May.f a b c = some false := by
  unfold waymarkref54_May.f
  by_cases g1 : a ≥ 0
  · by_cases g2 : a ≤ 8000
    · by_cases g3 : c ≥ 0
      · rw [if_pos g1, if_pos g2, if_pos g3]
        simp; omega
      · rw [if_pos g1, if_pos g2, if_neg g3]
    · rw [if_pos g1, if_neg g2]
  · rw [if_neg g1]
def ex (c t : Int) : Nat := (mn ((t - c) / 10) 20).toNat
theorem ex_le (c t : Int) : ex c t ≤ 20 := by unfold ex mn; split <;> omega
theorem time_ok (a : Int) (b : Bool) (c t : Int) (h0 : 0 ≤ a) (h1 : a ≤ 8000) (h2 : 0 ≤ c) (h3 : c ≤ t) (h4 : t ≤ 1099511627776) :
    damp_Time.f a b c t = some (a / 2 ^ ex c t, b && decide (a / 2 ^ ex c t ≥ 750), c + (t - c) / 10 * 10, 0) := by
  have e1 : wrap64 (t - c) = t - c := by unfold wrap64; omega
  have e2 : wrap64 (Int.tdiv (t - c) 10) = (t - c) / 10 := by rw [Int.tdiv_eq_ediv_of_nonneg (by omega)]; unfold wrap64; omega
  have e3 : wrap64 ((t - c) / 10 * 10) = (t - c) / 10 * 10 := by unfold wrap64; omega
  have e4 : wrap64 (c + (t - c) / 10 * 10) = c + (t - c) / 10 * 10 := by unfold wrap64; omega
  unfold damp_Time.f
  rw [check_ok a b c h0 h1 h2 (by omega)]
  simp only [Option.bind_some, if_true]
  rw [if_neg (by omega : ¬ t < c), if_neg (by omega : ¬ t > 1099511627776), e1, e2, e3, e4, if_pos (by unfold mn; split <;> omega)]
  cases b
  · simp [ex]
  · simp [ex]
theorem time_no (a : Int) (b : Bool) (c t : Int) (h : ¬ (0 ≤ a ∧ a ≤ 8000 ∧ 0 ≤ c ∧ c ≤ 1099511627776) ∨ t < c ∨ t > 1099511627776) : damp_Time.f a b c t = some (0, false, 0, 1) := by
  by_cases g : 0 ≤ a ∧ a ≤ 8000 ∧ 0 ≤ c ∧ c ≤ 1099511627776
  · unfold damp_Time.f
    rw [check_ok a b c g.1 g.2.1 g.2.2.1 g.2.2.2]
    simp only [Option.bind_some, if_true]
    by_cases g2 : t < c
    · rw [if_pos g2]
    · rw [if_neg g2, if_pos (by omega)]
  · unfold damp_Time.f
    rw [check_no a b c g]
    simp

end Go.Proofs.Ytdkobokdeofiiaa.Dm
