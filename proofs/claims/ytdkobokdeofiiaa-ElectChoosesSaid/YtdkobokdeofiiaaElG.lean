/- Plain facts on voters, for every input. -/
import Derived.Test.YtdkobokdeofiiaaElF
set_option linter.unusedVariables false
set_option linter.unusedSimpArgs false
namespace Go.Proofs.Ytdkobokdeofiiaa.El
open Go.RowKit Go.Proofs.YtdkobokdeofiiaaW.PrintWords Go.Proofs.YtdkobokdeofiiaaW.PrintLast Go.Proofs.YtdkobokdeofiiaaW.PrintMore

/-- Is a voter one that may stand behind a node? -/
def fits (last : Int) (x : S52) : Prop := last < x.f0 ∧ x.f0 ≤ 64 ∧ 0 ≤ x.f1 ∧ x.f1 ≤ 255 ∧ 0 ≤ x.f2 ∧ x.f2 ≤ 64 ∧ 0 ≤ x.f3 ∧ x.f3 ≤ 64
instance (last : Int) (x : S52) : Decidable (fits last x) := by unfold fits; exact inferInstance
def okFrom : Int → List S52 → Bool
  | _, [] => true
  | last, x :: xs => decide (fits last x) && okFrom x.f0 xs

theorem w1 (i : Nat) (h : i ≤ 4000000000000000000) : wrap64 ((i : Int) + 1) = ((i + 1 : Nat) : Int) := by unfold wrap64; omega
theorem rd_some {xs : List S52} {i : Nat} {x : S52} (h : xs[i]? = some x) : rd_T52 xs (i : Int) = x := by
  unfold rd_T52
  rw [Int.toNat_natCast, List.getD_eq_getElem?_getD, h]
  rfl
theorem drop_some {xs : List S52} {i : Nat} (h : i < xs.length) : ∃ x, xs[i]? = some x ∧ xs.drop i = x :: xs.drop (i + 1) := ⟨xs[i], List.getElem?_eq_getElem h, List.drop_eq_getElem_cons h⟩

theorem check_loop (xs : List S52) (hn : xs.length ≤ 1000000) (d : Nat) : ∀ (k i : Nat) (last : Int), i + d = xs.length → d < k → elect_Check.l0 k last xs (xs.length : Int) (i : Int) = some (if okFrom last (xs.drop i) = true then 0 else 1) := by
  induction d with
  | zero =>
    intro k i last hi hk
    obtain ⟨k, rfl⟩ : ∃ m, k = m + 1 := ⟨k - 1, by omega⟩
    simp only [elect_Check.l0]
    rw [if_neg (by omega), List.drop_of_length_le (by omega)]
    simp [okFrom]
  | succ d ih =>
    intro k i last hi hk
    obtain ⟨k, rfl⟩ : ∃ m, k = m + 1 := ⟨k - 1, by omega⟩
    obtain ⟨x, hx, hd⟩ := drop_some (xs := xs) (i := i) (by omega)
    simp only [elect_Check.l0]
    rw [if_pos (by omega), if_pos (by omega), if_pos (by omega), rd_some hx, hd, w1 i (by omega)]
    have hi' := ih k (i + 1) x.f0 (by omega) (by omega)
    unfold elect_within.f
    simp only [okFrom]
    by_cases h1 : x.f0 ≤ last
    · have : ¬ fits last x := fun h => by have := h.1; omega
      rw [if_pos h1]; simp [this]
    by_cases h2 : x.f0 > 64
    · have : ¬ fits last x := fun h => by have := h.2.1; omega
      rw [if_neg h1, if_pos h2]; simp [this]
    rw [if_neg h1, if_neg h2]
    by_cases h3 : 0 ≤ x.f1
    · by_cases h4 : x.f1 ≤ 255
      · by_cases h5 : 0 ≤ x.f2
        · by_cases h6 : x.f2 ≤ 64
          · by_cases h7 : 0 ≤ x.f3
            · by_cases h8 : x.f3 ≤ 64
              · have hf : fits last x := ⟨by omega, by omega, h3, h4, h5, h6, h7, h8⟩
                rw [if_pos h3, if_pos h5, if_pos h7, decide_eq_true h4, decide_eq_true h6, decide_eq_true h8]
                simp only [Option.bind_some, if_true]
                rw [hi']
                simp [hf]
              · have : ¬ fits last x := fun h => h8 h.2.2.2.2.2.2.2
                rw [if_pos h3, if_pos h5, if_pos h7, decide_eq_true h4, decide_eq_true h6, decide_eq_false h8]; simp [this]
            · have : ¬ fits last x := fun h => h7 h.2.2.2.2.2.2.1
              rw [if_pos h3, if_pos h5, if_neg h7, decide_eq_true h4, decide_eq_true h6]; simp [this]
          · have : ¬ fits last x := fun h => h6 h.2.2.2.2.2.1
            rw [if_pos h3, if_pos h5, decide_eq_true h4, decide_eq_false h6]; simp [this]
        · have : ¬ fits last x := fun h => h5 h.2.2.2.2.1
          rw [if_pos h3, if_neg h5, decide_eq_true h4]; simp [this]
      · have : ¬ fits last x := fun h => h4 h.2.2.2.1
        rw [if_pos h3, decide_eq_false h4]; simp [this]
    · have : ¬ fits last x := fun h => h3 h.2.2.1
      rw [if_neg h3]; simp [this]
theorem check_f (xs : List S52) (hn : xs.length ≤ 1000000) : elect_Check.f (xs.length + 1) xs = some (if okFrom 0 xs = true then 0 else 1) := by
  unfold elect_Check.f
  have := check_loop xs hn xs.length (xs.length + 1) 0 0 (by omega) (by omega)
  simpa using this

theorem may_loop (xs : List S52) (hn : xs.length ≤ 1000000) (d : Nat) : ∀ (k i : Nat) (last : Int), i + d = xs.length → d < k → 0 ≤ last → (∀ j y, j + 1 = i → xs[j]? = some y → y.f0 = last) → (i = 0 → last = 0) → waymarkref55_May.l0 k xs (i : Int) = some (okFrom last (xs.drop i)) := by
  induction d with
  | zero =>
    intro k i last hi hk _ _ _
    obtain ⟨k, rfl⟩ : ∃ m, k = m + 1 := ⟨k - 1, by omega⟩
    simp only [waymarkref55_May.l0]
    rw [if_neg (by omega), List.drop_of_length_le (by omega)]
    simp [okFrom]
  | succ d ih =>
    intro k i last hi hk h0 hprev hfirst
    obtain ⟨k, rfl⟩ : ∃ m, k = m + 1 := ⟨k - 1, by omega⟩
    obtain ⟨x, hx, hd⟩ := drop_some (xs := xs) (i := i) (by omega)
    simp only [waymarkref55_May.l0]
    rw [if_pos (by omega), if_pos (by omega), rd_some hx, hd, w1 i (by omega)]
    simp only [okFrom]
    have no : ¬ fits last x → (decide (fits last x) && okFrom x.f0 (xs.drop (i + 1))) = false := fun h => by rw [decide_eq_false h]; rfl
    by_cases h1 : x.f0 < 1
    · rw [if_pos h1, no (fun h => by have := h.1; omega)]
    by_cases h2 : x.f0 > 64
    · rw [if_neg h1, if_pos h2, no (fun h => by have := h.2.1; omega)]
    by_cases h3 : x.f1 < 0
    · rw [if_neg h1, if_neg h2, if_pos h3, no (fun h => by have := h.2.2.1; omega)]
    by_cases h4 : x.f1 > 255
    · rw [if_neg h1, if_neg h2, if_neg h3, if_pos h4, no (fun h => by have := h.2.2.2.1; omega)]
    by_cases h5 : x.f2 < 0
    · rw [if_neg h1, if_neg h2, if_neg h3, if_neg h4, if_pos h5, no (fun h => by have := h.2.2.2.2.1; omega)]
    by_cases h6 : x.f2 > 64
    · rw [if_neg h1, if_neg h2, if_neg h3, if_neg h4, if_neg h5, if_pos h6, no (fun h => by have := h.2.2.2.2.2.1; omega)]
    by_cases h7 : x.f3 < 0
    · rw [if_neg h1, if_neg h2, if_neg h3, if_neg h4, if_neg h5, if_neg h6, if_pos h7, no (fun h => by have := h.2.2.2.2.2.2.1; omega)]
    by_cases h8 : x.f3 > 64
    · rw [if_neg h1, if_neg h2, if_neg h3, if_neg h4, if_neg h5, if_neg h6, if_neg h7, if_pos h8, no (fun h => by have := h.2.2.2.2.2.2.2; omega)]
    rw [if_neg h1, if_neg h2, if_neg h3, if_neg h4, if_neg h5, if_neg h6, if_neg h7, if_neg h8]
    have hpv : ∀ j y, j + 1 = i + 1 → xs[j]? = some y → y.f0 = x.f0 := by
      intro j y hj hy
      obtain rfl : j = i := by omega
      rw [hx] at hy
      injection hy with hy
      rw [hy]
    have hrec := ih k (i + 1) x.f0 (by omega) (by omega) (by omega) hpv (fun h => by omega)
    by_cases h9 : (i : Int) > 0
    · obtain ⟨j, rfl⟩ : ∃ j, i = j + 1 := ⟨i - 1, by omega⟩
      obtain ⟨y, hy, _⟩ := drop_some (xs := xs) (i := j) (by omega)
      have ej : wrap64 (((j + 1 : Nat) : Int) - 1) = (j : Int) := by unfold wrap64; omega
      have hl := hprev j y rfl hy
      rw [if_pos h9, ej, if_pos (by omega), if_pos (by omega), rd_some hy, hl]
      clear ej
      by_cases h10 : last ≥ x.f0
      · rw [if_pos h10, no (fun h => by have := h.1; omega)]
      · have hf : fits last x := ⟨by omega, by omega, by omega, by omega, by omega, by omega, by omega, by omega⟩
        rw [if_neg h10, decide_eq_true hf, hrec]; rfl
    · have hi0 : i = 0 := by omega
      have hl := hfirst hi0
      have hf : fits last x := ⟨by omega, by omega, by omega, by omega, by omega, by omega, by omega, by omega⟩
      rw [if_neg h9, decide_eq_true hf, hrec]; rfl
theorem may_f (xs : List S52) (hn : xs.length ≤ 1000000) : waymarkref55_May.f (xs.length + 1) xs = some (okFrom 0 xs) := by
  unfold waymarkref55_May.f
  have := may_loop xs hn xs.length (xs.length + 1) 0 0 (by omega) (by omega) (by omega) (fun j y h => by omega) (fun _ => rfl)
  simpa using this

/-! What follows of it. -/
theorem ok_all {last : Int} {xs : List S52} (h : okFrom last xs = true) : ∀ x ∈ xs, last < x.f0 ∧ 0 ≤ x.f1 ∧ x.f1 ≤ 255 ∧ x.f0 ≤ 64 := by
  induction xs generalizing last with
  | nil => intro x hx; simp at hx
  | cons y ys ih =>
    simp only [okFrom, Bool.and_eq_true, decide_eq_true_eq] at h
    obtain ⟨h1, h2⟩ := h
    intro x hx
    rcases List.mem_cons.1 hx with rfl | hx
    · exact ⟨h1.1, h1.2.2.1, h1.2.2.2.1, h1.2.1⟩
    · have := ih h2 x hx
      have := h1.1
      omega
theorem ok_inj {last : Int} {xs : List S52} (h : okFrom last xs = true) : ∀ x ∈ xs, ∀ y ∈ xs, x.f0 = y.f0 → x = y := by
  induction xs generalizing last with
  | nil => intro x hx; simp at hx
  | cons z zs ih =>
    simp only [okFrom, Bool.and_eq_true, decide_eq_true_eq] at h
    obtain ⟨h1, h2⟩ := h
    have hz := ok_all h2
    intro x hx y hy e
    rcases List.mem_cons.1 hx with hx1 | hx1
    · rcases List.mem_cons.1 hy with hy1 | hy1
      · rw [hx1, hy1]
      · have := (hz y hy1).1
        rw [hx1] at e
        omega
    · rcases List.mem_cons.1 hy with hy1 | hy1
      · have := (hz x hx1).1
        rw [hy1] at e
        omega
      · exact ih h2 x hx1 y hy1 e

/-- best finds nobody if there is none, else one that is meant. -/
theorem best_cases (p : S52 → Bool) (xs : List S52) (hpos : ∀ x ∈ xs, 0 < x.f0) : ∀ s : Int × Int, 0 ≤ s.2 → (xs.foldl (bestS p) s = s ∧ (∀ x ∈ xs, 0 < x.f1 → p x = true → x.f1 < s.2)) ∨ (∃ x ∈ xs, 0 < x.f1 ∧ p x = true ∧ xs.foldl (bestS p) s = (x.f0, x.f1)) := by
  induction xs with
  | nil => intro s hs; exact .inl ⟨rfl, fun x hx => by simp at hx⟩
  | cons y ys ih =>
    intro s hs
    have hpos' : ∀ x ∈ ys, 0 < x.f0 := fun x hx => hpos x (List.mem_cons_of_mem _ hx)
    rw [List.foldl_cons]
    by_cases hy : 0 < y.f1 ∧ s.2 ≤ y.f1 ∧ p y = true
    · have e : bestS p s y = (y.f0, y.f1) := by unfold bestS; rw [if_pos hy]
      rw [e]
      rcases ih hpos' (y.f0, y.f1) (by simp; omega) with ⟨h1, _⟩ | ⟨x, hx, h1, h2, h3⟩
      · exact .inr ⟨y, List.mem_cons_self, hy.1, hy.2.2, h1⟩
      · exact .inr ⟨x, List.mem_cons_of_mem _ hx, h1, h2, h3⟩
    · have e : bestS p s y = s := by unfold bestS; rw [if_neg hy]
      rw [e]
      rcases ih hpos' s hs with ⟨h1, h2⟩ | ⟨x, hx, h1, h2, h3⟩
      · refine .inl ⟨h1, fun x hx hx1 hx2 => ?_⟩
        rcases List.mem_cons.1 hx with rfl | hx
        · have : ¬ s.2 ≤ x.f1 := fun h => hy ⟨hx1, h, hx2⟩
          omega
        · exact h2 x hx hx1 hx2
      · exact .inr ⟨x, List.mem_cons_of_mem _ hx, h1, h2, h3⟩
theorem best_two (p : S52 → Bool) (xs : List S52) (hpos : ∀ x ∈ xs, 0 < x.f0) : ((bestF p xs).1 = 0 ∧ ∀ x ∈ xs, 0 < x.f1 → p x = false) ∨ (∃ x ∈ xs, 0 < x.f1 ∧ p x = true ∧ (bestF p xs).1 = x.f0 ∧ 0 < x.f0) := by
  rcases best_cases p xs hpos (0, 0) (by simp) with ⟨h1, h2⟩ | ⟨x, hx, h1, h2, h3⟩
  · refine .inl ⟨by unfold bestF; rw [h1], fun x hx hx1 => ?_⟩
    cases hp : p x
    · rfl
    · have := h2 x hx hx1 hp
      simp at this; omega
  · exact .inr ⟨x, hx, h1, h2, by unfold bestF; rw [h3], hpos x hx⟩
theorem run_two (p : S52 → Bool) (xs : List S52) (hpos : ∀ x ∈ xs, 0 < x.f0) : (runF p xs = 0 ∧ ∀ x ∈ xs, 0 < x.f1 → p x = false) ∨ (∃ x ∈ xs, 0 < x.f1 ∧ p x = true ∧ runF p xs = x.f0 ∧ 0 < x.f0) := by
  unfold runF
  rcases best_two (fun x => p x && (x.f3 == x.f0)) xs hpos with ⟨h1, h2⟩ | ⟨x, hx, h1, h2, h3, h4⟩
  · rw [h1, if_neg (by omega)]
    exact best_two p xs hpos
  · rw [h3, if_pos h4]
    exact .inr ⟨x, hx, h1, by simp at h2; exact h2.1, rfl, h4⟩

/-- How many may be chosen. -/
def manyF (xs : List S52) : Nat := (xs.filter fun x => decide (0 < x.f1)).length
def firstsF (xs : List S52) : Nat := (xs.filter fun x => decide (0 < x.f1) && (x.f2 == x.f0)).length

theorem two_law (xs : List S52) (h : okFrom 0 xs = true) :
    ((chooseF xs).1 = 0 ∨ ∃ x ∈ xs, 0 < x.f1 ∧ x.f0 = (chooseF xs).1) ∧ ((chooseF xs).2 = 0 ∨ ∃ x ∈ xs, 0 < x.f1 ∧ x.f0 = (chooseF xs).2) ∧
    ((chooseF xs).1 ≠ (chooseF xs).2 ∨ (chooseF xs).1 = 0) ∧ (manyF xs = 0 ↔ (chooseF xs).1 = 0) ∧ (manyF xs < 2 ∨ 1 < firstsF xs ∨ 0 < (chooseF xs).2) := by
  have hall := ok_all h
  have hinj := ok_inj h
  have hpos : ∀ x ∈ xs, 0 < x.f0 := fun x hx => (hall x hx).1
  have hm0 : manyF xs = 0 ↔ ∀ x ∈ xs, ¬ 0 < x.f1 := by
    unfold manyF
    rw [List.length_eq_zero_iff, List.filter_eq_nil_iff]
    simp
  unfold chooseF
  rcases best_two (fun x => x.f2 == x.f0) xs hpos with ⟨b0, bn⟩ | ⟨x, hx, hx1, hx2, hx3, hx4⟩
  · rw [if_pos b0]
    simp only
    rcases run_two (fun x => x.f2 != x.f0) xs hpos with ⟨r0, rn⟩ | ⟨y, hy, hy1, hy2, hy3, hy4⟩
    · have hnone : ∀ x ∈ xs, ¬ 0 < x.f1 := by
        intro x hx hx1
        have h1 := bn x hx hx1
        have h2 := rn x hx hx1
        simp at h1 h2
        exact h1 h2
      have hm := hm0.2 hnone
      rw [r0]
      refine ⟨.inl rfl, ?_, .inr rfl, ⟨fun _ => rfl, fun _ => hm⟩, .inl (by omega)⟩
      rcases run_two (fun x => x.f0 != 0) xs hpos with ⟨s0, _⟩ | ⟨z, hz, hz1, _, hz3, _⟩
      · exact .inl s0
      · exact absurd hz1 (hnone z hz)
    · rw [hy3]
      have hmn : manyF xs ≠ 0 := fun e => hm0.1 e y hy hy1
      rcases run_two (fun x => x.f0 != y.f0) xs hpos with ⟨s0, sn⟩ | ⟨z, hz, hz1, hz2, hz3, hz4⟩
      · rw [s0]
        refine ⟨.inr ⟨y, hy, hy1, rfl⟩, .inl rfl, .inl (by omega), ⟨fun e => absurd e hmn, fun e => by omega⟩, .inl ?_⟩
        have hall1 : ∀ x ∈ xs, 0 < x.f1 → x = y := by
          intro x hx hx1
          have := sn x hx hx1
          simp at this
          exact hinj x hx y hy this
        -- at most one is left
        have hnd : ∀ (l : List S52) (last : Int), okFrom last l = true → (∀ x ∈ l, 0 < x.f1 → x = y) → (l.filter fun x => decide (0 < x.f1)).length < 2 := by
          intro l
          induction l with
          | nil => intro _ _ _; simp
          | cons a rest ih =>
            intro last hok ha
            simp only [okFrom, Bool.and_eq_true, decide_eq_true_eq] at hok
            have hih := ih a.f0 hok.2 (fun x hx => ha x (List.mem_cons_of_mem _ hx))
            by_cases hp : 0 < a.f1
            · have e1 := ha a List.mem_cons_self hp
              have : rest.filter (fun x => decide (0 < x.f1)) = [] := by
                rw [List.filter_eq_nil_iff]
                intro x hx hx1
                simp at hx1
                have e2 := ha x (List.mem_cons_of_mem _ hx) hx1
                have := (ok_all hok.2 x hx).1
                rw [e2, ← e1] at this
                omega
              rw [List.filter_cons, if_pos (by simpa using hp), this]
              simp
            · rw [List.filter_cons, if_neg (by simpa using hp)]
              exact hih
        exact hnd xs 0 h hall1
      · rw [hz3]
        have hne : z.f0 ≠ y.f0 := by simpa using hz2
        exact ⟨.inr ⟨y, hy, hy1, rfl⟩, .inr ⟨z, hz, hz1, rfl⟩, .inl (fun e => hne e.symm), ⟨fun e => absurd e hmn, fun e => by omega⟩, .inr (.inr hz4)⟩
  · rw [if_neg (by omega)]
    simp only
    have hmn : manyF xs ≠ 0 := fun e => hm0.1 e x hx hx1
    rw [hx3]
    rcases run_two (fun x => x.f2 != x.f0) xs hpos with ⟨r0, rn⟩ | ⟨y, hy, hy1, hy2, hy3, hy4⟩
    · rw [r0]
      refine ⟨.inr ⟨x, hx, hx1, rfl⟩, .inl rfl, .inl (by omega), ⟨fun e => absurd e hmn, fun e => by omega⟩, ?_⟩
      have : firstsF xs = manyF xs := by
        unfold firstsF manyF
        congr 1
        apply List.filter_congr
        intro z hz
        by_cases hz1 : 0 < z.f1
        · have := rn z hz hz1
          simp at this
          simp [hz1, this]
        · simp [hz1]
      omega
    · rw [hy3]
      have hne : x.f0 ≠ y.f0 := by
        intro e
        have := hinj x hx y hy e
        subst this
        simp at hx2 hy2
        exact hy2 hx2
      exact ⟨.inr ⟨x, hx, hx1, rfl⟩, .inr ⟨y, hy, hy1, rfl⟩, .inl hne, ⟨fun e => absurd e hmn, fun e => by omega⟩, .inr (.inr hy4)⟩
end Go.Proofs.Ytdkobokdeofiiaa.El
