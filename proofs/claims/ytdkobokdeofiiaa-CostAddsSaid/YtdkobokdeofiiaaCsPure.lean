/- The pure side of CostSums (the theorem of sums), for every input: no condition. -/
import Derived.Test.YtdkobokdeofiiaaCsD
import Derived.OpenShut
import Derived.IntWalk
set_option linter.unusedVariables false
set_option linter.unusedSimpArgs false
namespace Go.Proofs.Ytdkobokdeofiiaa.Cs
open Go.RowKit Go.Proofs.YtdkobokdeofiiaaW.PrintWords Go.Proofs.YtdkobokdeofiiaaW.PrintLast

theorem wf_u64 {x : Int} (h : (Lit.int .u64 x).wf = true) : 0 ≤ x ∧ x ≤ 18446744073709551615 := bounds_u64 h
theorem wf_u8 {x : Int} (h : (Lit.int .u8 x).wf = true) : 0 ≤ x ∧ x ≤ 255 := bounds_u8 h
def cap (x : Int) : Int := if 18446744073709551615 < x then 18446744073709551615 else x
theorem cap_range {x : Int} (h : 0 ≤ x) : 0 ≤ cap x ∧ cap x ≤ 18446744073709551615 := by unfold cap; split <;> omega
theorem cap_cap (x y : Int) (hx : 0 ≤ x) (hy : 0 ≤ y) : cap (cap x + y) = cap (x + y) := by unfold cap; (repeat' split) <;> omega
theorem cap_cap2 (x y : Int) (hx : 0 ≤ x) (hy : 0 ≤ y) : cap (cap x + cap y) = cap (x + y) := by unfold cap; (repeat' split) <;> omega
theorem cap_id {x : Int} (h : x ≤ 18446744073709551615) : cap x = x := by unfold cap; rw [if_neg (by omega)]
theorem cap_mono {x y : Int} (h : x ≤ y) : cap x ≤ cap y := by unfold cap; (repeat' split) <;> omega
theorem add_f (a b : Int) (ha : 0 ≤ a ∧ a ≤ 18446744073709551615) (hb : 0 ≤ b ∧ b ≤ 18446744073709551615) : cost_Add.f a b = some (cap (a + b)) := by
  unfold cost_Add.f cost_Far.f cap
  simp only [Option.bind_some]
  have e : IntKind.u64.wrap (18446744073709551615 - b) = 18446744073709551615 - b := by rw [IntWalk.u64_in _ (by omega)]
  rw [e]
  by_cases h : a > 18446744073709551615 - b
  · rw [if_pos h, if_pos (by omega)]
  · have e2 : IntKind.u64.wrap (a + b) = a + b := by rw [IntWalk.u64_in _ (by omega)]
    rw [if_neg h, if_neg (by omega), e2]
def S : List Int → Int
  | [] => 0
  | x :: l => x + S l
def Ok (l : List Int) : Prop := ∀ x ∈ l, 0 ≤ x ∧ x ≤ 18446744073709551615
theorem S_nonneg : ∀ l, Ok l → 0 ≤ S l
  | [], _ => by simp [S]
  | x :: l, h => by
    have h1 := h x (by simp)
    have h2 := S_nonneg l (fun y hy => h y (by simp [hy]))
    simp only [S]; omega
theorem S_append : ∀ l m, S (l ++ m) = S l + S m
  | [], m => by simp [S]
  | x :: l, m => by simp only [List.cons_append, S, S_append l m]; omega
theorem S_take_drop (l : List Int) (n : Nat) : S (l.take n) + S (l.drop n) = S l := by
  rw [← S_append, List.take_append_drop]
theorem drop_cons (l : List Int) (n : Nat) (h : n < l.length) : l.drop n = l.getD n 0 :: l.drop (n + 1) := by
  rw [List.drop_eq_getElem_cons h]; congr 1; simp [List.getD_eq_getElem?_getD, List.getElem?_eq_getElem h]
theorem S_out (l : List Int) (n : Nat) (h : n < l.length) : S (l.take n ++ l.drop (n + 1)) + l.getD n 0 = S l := by
  rw [S_append, ← S_take_drop l n, drop_cons l n h]; simp only [S]; omega
theorem Ok_take {l : List Int} (h : Ok l) (n : Nat) : Ok (l.take n) := fun x hx => h x (List.mem_of_mem_take hx)
theorem Ok_drop {l : List Int} (h : Ok l) (n : Nat) : Ok (l.drop n) := fun x hx => h x (List.mem_of_mem_drop hx)
theorem Ok_app {l m : List Int} (h : Ok l) (g : Ok m) : Ok (l ++ m) := fun x hx => (List.mem_append.1 hx).elim (h x) (g x)
theorem Ok_get {l : List Int} (h : Ok l) (n : Nat) (hn : n < l.length) : 0 ≤ l.getD n 0 ∧ l.getD n 0 ≤ 18446744073709551615 := by
  apply h
  rw [List.getD_eq_getElem?_getD, List.getElem?_eq_getElem hn]
  exact List.getElem_mem hn

theorem w1 (i : Nat) (h : i ≤ 4000000000000000000) : wrap64 ((i : Int) + 1) = ((i + 1 : Nat) : Int) := by unfold wrap64; omega
theorem w0 (i : Nat) (h : i ≤ 4000000000000000000) : wrap64 (i : Int) = (i : Int) := by unfold wrap64; omega

theorem sum_loop (l : List Int) (hl : Ok l) (hn : l.length ≤ 1000000) (d : Nat) : ∀ (k i : Nat) (X : Int), i + d = l.length → d < k → 0 ≤ X →
    cost_Sum.l0 k (cap X) l (l.length : Int) (i : Int) = some (cap (X + S (l.drop i))) := by
  induction d with
  | zero =>
    intro k i X hi hk hX
    obtain ⟨k, rfl⟩ : ∃ m, k = m + 1 := ⟨k - 1, by omega⟩
    simp only [cost_Sum.l0]
    rw [if_neg (by omega), List.drop_of_length_le (by omega)]
    simp [S]
  | succ d ih =>
    intro k i X hi hk hX
    obtain ⟨k, rfl⟩ : ∃ m, k = m + 1 := ⟨k - 1, by omega⟩
    simp only [cost_Sum.l0]
    have hg := Ok_get hl i (by omega)
    have e : wrap64 ((i : Int) + 1) = ((i + 1 : Nat) : Int) := by unfold wrap64; omega
    rw [if_pos (by omega), if_pos (by omega), if_pos (by omega)]
    unfold rd
    rw [show ((i : Int)).toNat = i from by omega, add_f _ _ (cap_range hX) hg, e]
    simp only [Option.bind_some]
    rw [cap_cap X _ hX hg.1, ih k (i + 1) (X + l.getD i 0) (by omega) (by omega) (by omega), drop_cons l i (by omega)]
    simp only [S]
    congr 2; omega
theorem sum_f (l : List Int) (hl : Ok l) (hn : l.length ≤ 1000000) (k : Nat) (hk : l.length < k) : cost_Sum.f k l = some (cap (S l)) := by
  unfold cost_Sum.f
  have := sum_loop l hl hn l.length k 0 0 (by omega) hk (by omega)
  rw [show cap 0 = 0 from cap_id (by omega)] at this
  simpa using this
theorem awake_ok : waymarklaw22_awake.f = some true := by
  unfold waymarklaw22_awake.f
  rw [add_f 3 4 (by omega) (by omega)]
  unfold cost_Far.f
  simp only [Option.bind_some]
  rw [add_f _ _ (by omega) (by omega)]
  rfl
theorem sums_loop (l t : List Int) (hl : Ok l) (ht : ∀ x ∈ t, 0 ≤ x ∧ x ≤ 255) (hn : l.length ≤ 200) (hm : t.length ≤ 400) (d : Nat) : ∀ (k i : Nat) (left : List Int) (B : Int), i + d = l.length → d + 300 < k → left.length = d → Ok left → 0 ≤ B → B + S left = S l →
    waymarklaw22_CostSums.l0 k l t (cap (S l)) left (cap B) (i : Int) = some true := by
  induction d with
  | zero =>
    intro k i left B hi hk hle hlo hB hS
    obtain ⟨k, rfl⟩ : ∃ m, k = m + 1 := ⟨k - 1, by omega⟩
    simp only [waymarklaw22_CostSums.l0]
    have hl0 : left = [] := List.eq_nil_of_length_eq_zero hle
    subst hl0
    simp only [S] at hS
    have e : wrap64 ((l.length : Int) / 2) = ((l.length / 2 : Nat) : Int) := by unfold wrap64; omega
    rw [if_neg (by omega), e, if_pos (by omega), if_pos (by omega), show (((l.length / 2 : Nat) : Int)).toNat = l.length / 2 from by omega]
    generalize l.length / 2 = h
    rw [sum_f (l.take h) (Ok_take hl h) (by simp; omega) k (by simp; omega)]
    simp only [Option.bind_some]
    rw [sum_f (l.drop h) (Ok_drop hl h) (by simp; omega) k (by simp; omega)]
    simp only [Option.bind_some]
    have h1 := S_nonneg _ (Ok_take hl h)
    have h2 := S_nonneg _ (Ok_drop hl h)
    rw [add_f _ _ (cap_range h1) (cap_range h2)]
    simp only [Option.bind_some]
    rw [cap_cap2 _ _ h1 h2, S_take_drop, show B = S l from by omega]
    simp only [if_true]
    rw [awake_ok]
    by_cases h0 : (l.length : Int) = 0
    · rw [if_pos h0]; rfl
    · rw [if_neg h0, if_pos (by omega), sum_f (l.drop 1) (Ok_drop hl 1) (by simp; omega) k (by simp; omega)]
      simp only [Option.bind_some]
      have h3 := S_take_drop l 1
      have h4 := S_nonneg _ (Ok_take hl 1)
      rw [if_pos (cap_mono (by omega))]
  | succ d ih =>
    intro k i left B hi hk hle hlo hB hS
    obtain ⟨k, rfl⟩ : ∃ m, k = m + 1 := ⟨k - 1, by omega⟩
    simp only [waymarklaw22_CostSums.l0]
    rw [if_pos (by omega : (i : Int) < (l.length : Int)), w1 i (by omega)]
    by_cases hit : (i : Int) < (t.length : Int)
    · rw [if_pos hit, if_pos (by omega), if_neg (by omega)]
      have hti : 0 ≤ rd t (i : Int) ∧ rd t (i : Int) ≤ 255 := by
        unfold rd
        rw [show ((i : Int)).toNat = i from by omega, List.getD_eq_getElem?_getD, List.getElem?_eq_getElem (by omega)]
        exact ht _ (List.getElem_mem _)
      generalize rd t (i : Int) = y at hti ⊢
      obtain ⟨m, rfl⟩ := Int.eq_ofNat_of_zero_le hti.1
      have em : Int.tmod (m : Int) (left.length : Int) = ((m % left.length : Nat) : Int) := by
        rw [Int.tmod_eq_emod_of_nonneg hti.1]; exact (Int.natCast_emod m left.length).symm
      rw [w0 m (by omega), em]
      have hj := Nat.mod_lt m (show 0 < left.length by omega)
      clear em
      generalize m % left.length = j at hj ⊢
      have hg := Ok_get hlo j hj
      rw [if_pos (by omega), if_pos (by omega), w1 j (by omega)]
      unfold rd
      rw [show ((j : Int)).toNat = j from by omega, show (((j + 1 : Nat) : Int)).toNat = j + 1 from by omega, add_f _ _ hg (cap_range hB)]
      simp only [Option.bind_some, List.nil_append, List.length_nil]
      rw [if_pos (by omega), if_pos (by rw [List.length_take]; omega), if_pos (by omega), if_pos (by omega), if_pos (by rw [List.length_take, List.length_drop]; omega)]
      have hSo := S_out left j hj
      rw [Int.add_comm (left.getD j 0), cap_cap B _ hB hg.1]
      exact ih k (i + 1) _ _ (by omega) (by omega) (by rw [List.length_append, List.length_take, List.length_drop]; omega) (Ok_app (Ok_take hlo j) (Ok_drop hlo (j + 1))) (by omega) (by omega)
    · rw [if_neg hit, if_pos (by omega)]
      have hg := Ok_get hlo 0 (by omega)
      unfold rd
      rw [show ((0 : Int)).toNat = 0 from rfl, add_f _ _ hg (cap_range hB)]
      simp only [Option.bind_some, List.nil_append, List.length_nil, List.take_zero]
      rw [if_pos (by omega), if_pos (by omega), if_pos (by omega), if_pos (by omega), show ((0 + 1 : Int)).toNat = 1 from rfl, if_pos (by rw [List.length_drop]; omega)]
      have hSo := S_out left 0 (by omega)
      rw [Int.add_comm (left.getD 0 0), cap_cap B _ hB hg.1]
      exact ih k (i + 1) _ _ (by omega) (by omega) (by rw [List.length_drop]; omega) (Ok_drop hlo 1) (by omega) (by simpa using (show (B + left.getD 0 0) + S (left.take 0 ++ left.drop (0 + 1)) = S l by omega))

theorem CostSums : waymarklaw22_CostSums.Pure := by
  intro l t hl1 hl2 hl hm1 hm2 ht
  have hl' : Ok l := fun x hx => wf_u64 (hl x hx)
  have ht' : ∀ x ∈ t, 0 ≤ x ∧ x ≤ 255 := fun x hx => wf_u8 (ht x hx)
  refine ⟨1001, ?_⟩
  unfold waymarklaw22_CostSums.f
  have haw : ∀ b, b = true → waymarklaw22_CostSums.j0 1001 l t b = some true := by
    intro b hb
    subst hb
    simp only [waymarklaw22_CostSums.j0]
    rw [awake_ok]; rfl
  by_cases h1 : (l.length : Int) > 200
  · rw [if_pos h1]; exact haw _ rfl
  · rw [if_neg h1]
    by_cases h2 : (t.length : Int) > 400
    · exact haw _ (decide_eq_true h2)
    · rw [decide_eq_false h2]
      simp only [waymarklaw22_CostSums.j0]
      rw [if_neg (by simp), sum_f l hl' (by omega) 1000 (by omega)]
      simp only [Option.bind_some, List.nil_append, List.length_nil]
      rw [if_pos (by omega)]
      have := sums_loop l t hl' ht' (by omega) (by omega) l.length 1000 0 l 0 (by omega) (by omega) rfl hl' (by omega) (by omega)
      rw [show cap 0 = 0 from cap_id (by omega)] at this
      exact this

end Go.Proofs.Ytdkobokdeofiiaa.Cs
