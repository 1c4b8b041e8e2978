/- The queue's reference functions on plain lists: With, Without, Same, for every input. -/
import Derived.Test.YthimnnnfgangbaaQuZ
set_option linter.unusedVariables false
set_option linter.unusedSimpArgs false
namespace Go.Proofs.Ythimnnnfgangbaa.Qu
open Go.RowKit Go.Proofs.YthimnnnfgangbaaW.PrintWords Go.Proofs.YthimnnnfgangbaaW.PrintLast Go.Proofs.YthimnnnfgangbaaW.PrintMore

theorem wrSucc {i : Nat} (h : i ≤ 999) : wrap64 ((i : Int) + 1) = ((i + 1 : Nat) : Int) := by
  rw [show (i : Int) + 1 = ((i + 1 : Nat) : Int) by omega]
  exact wrN _ (by omega)

theorem same01_loop (l : List Int) (hl : l.length ≤ 1000) (d : Nat) : ∀ (k i : Nat), i ≤ l.length → l.length - i = d → d < k → waymarkref01_Same.l0 k l l (i : Int) = some true := by
  induction d with
  | zero =>
    intro k i hi hd hk
    obtain ⟨k, rfl⟩ : ∃ m, k = m + 1 := ⟨k - 1, by omega⟩
    simp only [waymarkref01_Same.l0]
    rw [if_neg (by omega)]
  | succ d ih =>
    intro k i hi hd hk
    obtain ⟨k, rfl⟩ : ∃ m, k = m + 1 := ⟨k - 1, by omega⟩
    simp only [waymarkref01_Same.l0]
    rw [if_pos (by omega), if_pos (by omega), if_pos (by omega), if_pos trivial, wrSucc (by omega)]
    exact ih k (i + 1) (by omega) (by omega) (by omega)
theorem same01_law (l : List Int) (hl : l.length ≤ 1000) (k : Nat) (hk : 1001 ≤ k) : waymarkref01_Same.f k l l = some true := by
  unfold waymarkref01_Same.f
  rw [if_pos rfl]
  exact same01_loop l hl l.length k 0 (by omega) (by omega) (by omega)
theorem same15_loop (l : List (List Int)) (hl : l.length ≤ 1000) (hx : ∀ x ∈ l, x.length ≤ 200) (d : Nat) : ∀ (k i : Nat), i ≤ l.length → l.length - i = d → d + 1001 < k → waymarkref15_Same.l0 k l l (i : Int) = some true := by
  induction d with
  | zero =>
    intro k i hi hd hk
    obtain ⟨k, rfl⟩ : ∃ m, k = m + 1 := ⟨k - 1, by omega⟩
    simp only [waymarkref15_Same.l0]
    rw [if_neg (by omega)]
  | succ d ih =>
    intro k i hi hd hk
    obtain ⟨k, rfl⟩ : ∃ m, k = m + 1 := ⟨k - 1, by omega⟩
    simp only [waymarkref15_Same.l0]
    have hr : (rd_L1 l (i : Int)).length ≤ 1000 := by
      have hlt : i < l.length := by omega
      unfold rd_L1
      rw [show ((i : Int)).toNat = i from by omega, List.getD_eq_getElem?_getD, List.getElem?_eq_getElem hlt]
      exact Nat.le_trans (hx _ (List.getElem_mem hlt)) (by omega)
    rw [if_pos (by omega), if_pos (by omega), if_pos (by omega), same01_law _ hr k (by omega)]
    simp only [Option.bind_some, if_true]
    rw [wrSucc (by omega)]
    exact ih k (i + 1) (by omega) (by omega) (by omega)
theorem same15_law (l : List (List Int)) (hl : l.length ≤ 1000) (hx : ∀ x ∈ l, x.length ≤ 200) : waymarkref15_Same.f 3000 l l = some true := by
  unfold waymarkref15_Same.f
  rw [if_pos rfl]
  exact same15_loop l hl hx l.length 3000 0 (by omega) (by omega) (by omega)
theorem with_law (l : List (List Int)) (b : List Int) (hl : l.length ≤ 1000) : waymarkref15_With.f l b = some (l ++ [b]) := by
  unfold waymarkref15_With.f
  simp only [Option.bind_some, List.nil_append, List.length_nil]
  rw [if_pos (by omega), if_pos (by omega)]
theorem without_law (l : List (List Int)) (i : Nat) (hl : l.length ≤ 1000) (hi : i < l.length) : waymarkref15_Without.f l (i : Int) = some (l.eraseIdx i) := by
  have h1 : (l.take i).length ≤ 1000 := by rw [List.length_take]; omega
  have h2 : (l.drop (i + 1)).length ≤ 1000 := by rw [List.length_drop]; omega
  unfold waymarkref15_Without.f
  rw [wrSucc (show i ≤ 999 by omega), show ((i : Int)).toNat = i from by omega, show (((i + 1 : Nat) : Int)).toNat = i + 1 from by omega]
  simp only [Option.bind_some, List.nil_append, List.length_nil]
  rw [if_pos (by omega), if_pos (by omega), if_pos (by omega), if_pos (by omega), if_pos (by omega), if_pos (by omega), List.eraseIdx_eq_take_drop_succ]
end Go.Proofs.Ythimnnnfgangbaa.Qu
