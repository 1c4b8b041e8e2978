/- Plain facts on heaps of spots, for every input. -/
import Derived.Test.YtdkobokdeofiiaaHpD
set_option linter.unusedVariables false
set_option linter.unusedSimpArgs false
namespace Go.Proofs.Ytdkobokdeofiiaa.Hp
open Go.RowKit Go.Proofs.YtdkobokdeofiiaaW.PrintWords Go.Proofs.YtdkobokdeofiiaaW.PrintLast Go.Proofs.YtdkobokdeofiiaaW.PrintMore

def ltb (a b : S30) : Bool := decide (a.f0 < b.f0) || (a.f0 == b.f0 && decide (a.f1 < b.f1))
theorem ltb_iff {a b : S30} : ltb a b = true ↔ a.f0 < b.f0 ∨ (a.f0 = b.f0 ∧ a.f1 < b.f1) := by unfold ltb; simp
theorem ltb_false {a b : S30} : ltb a b = false ↔ b.f0 < a.f0 ∨ (a.f0 = b.f0 ∧ b.f1 ≤ a.f1) := by
  rw [← Bool.not_eq_true, ltb_iff]; omega
theorem ltb_asymm {a b : S30} (h : ltb a b = true) : ltb b a = false := by rw [ltb_false]; rw [ltb_iff] at h; omega
theorem ge_trans {a b c : S30} (h : ltb a b = false) (g : ltb b c = false) : ltb a c = false := by rw [ltb_false] at *; omega
theorem ge_of_lt_ge {a b c : S30} (h : ltb a b = true) (g : ltb c b = false) : ltb c a = false := by rw [ltb_false] at *; rw [ltb_iff] at h; omega
theorem s30_ext {a b : S30} (h0 : a.f0 = b.f0) (h1 : a.f1 = b.f1) : a = b := by cases a; cases b; simp_all
theorem ltb_antisymm {a b : S30} (h : ltb a b = false) (g : ltb b a = false) : a = b := by
  rw [ltb_false] at *
  exact s30_ext (by omega) (by omega)
theorem ltb_irrefl (a : S30) : ltb a a = false := by rw [ltb_false]; omega

def at_ (xs : List S30) (i : Nat) : S30 := xs.getD i z30
def swapL (xs : List S30) (i k : Nat) : List S30 := (xs.set i (at_ xs k)).set k (at_ xs i)
theorem swap_len (xs : List S30) (i k : Nat) : (swapL xs i k).length = xs.length := by unfold swapL; simp
theorem at_get {xs : List S30} {i : Nat} (h : i < xs.length) : at_ xs i = xs[i] := by unfold at_; rw [List.getD_eq_getElem?_getD, List.getElem?_eq_getElem h]; rfl
theorem at_some {xs : List S30} {i : Nat} (h : i < xs.length) : xs[i]? = some (at_ xs i) := by rw [at_get h, List.getElem?_eq_getElem h]
theorem at_set {xs : List S30} {i : Nat} {v : S30} {j : Nat} (h : i < xs.length) : at_ (xs.set i v) j = if i = j then v else at_ xs j := by
  unfold at_
  rw [List.getD_eq_getElem?_getD, List.getD_eq_getElem?_getD, List.getElem?_set]
  by_cases e : i = j
  · subst e; simp [h]
  · simp [e]
theorem at_swap {xs : List S30} {i k : Nat} (hi : i < xs.length) (hk : k < xs.length) (j : Nat) : at_ (swapL xs i k) j = if k = j then at_ xs i else if i = j then at_ xs k else at_ xs j := by
  unfold swapL
  rw [at_set (by simpa using hk), at_set hi]
theorem swap_perm {xs : List S30} {i k : Nat} (hi : i < xs.length) (hk : k < xs.length) : (swapL xs i k).Perm xs := by
  unfold swapL
  rw [at_get hi, at_get hk]
  exact List.set_set_perm hi hk

/-- Every spot but the first is not ahead of the one at half its place. -/
def Heaped (xs : List S30) : Prop := ∀ j, 0 < j → j < xs.length → ltb (at_ xs j) (at_ xs ((j - 1) / 2)) = false

def upF : Nat → List S30 → Nat → List S30
  | 0, xs, _ => xs
  | f + 1, xs, i => if 0 < i ∧ ltb (at_ xs i) (at_ xs ((i - 1) / 2)) = true then upF f (swapL xs i ((i - 1) / 2)) ((i - 1) / 2) else xs
def UpInv (xs : List S30) (i : Nat) : Prop := (∀ j, 0 < j → j < xs.length → j ≠ i → ltb (at_ xs j) (at_ xs ((j - 1) / 2)) = false) ∧
  (∀ j, 0 < j → j < xs.length → (j - 1) / 2 = i → 0 < i → ltb (at_ xs j) (at_ xs ((i - 1) / 2)) = false)
theorem up_step {xs : List S30} {i : Nat} (hi : i < xs.length) (h0 : 0 < i) (hl : ltb (at_ xs i) (at_ xs ((i - 1) / 2)) = true) (hv : UpInv xs i) : UpInv (swapL xs i ((i - 1) / 2)) ((i - 1) / 2) := by
  obtain ⟨h1, h2⟩ := hv
  generalize hu : (i - 1) / 2 = u at *
  have hui : u < i := by omega
  have hul : u < xs.length := by omega
  have key : ∀ j, at_ (swapL xs i u) j = if u = j then at_ xs i else if i = j then at_ xs u else at_ xs j := at_swap hi hul
  refine ⟨fun j hj hjn hju => ?_, fun j hj hjn hjp hu0 => ?_⟩
  · rw [swap_len] at hjn
    rw [key j, key ((j - 1) / 2), if_neg (Ne.symm hju)]
    by_cases e1 : i = j
    · subst e1
      rw [if_pos rfl, if_pos hu.symm]
      exact ltb_asymm hl
    · rw [if_neg e1]
      by_cases e2 : u = (j - 1) / 2
      · rw [if_pos e2]
        have := h1 j hj hjn (Ne.symm e1)
        rw [← e2] at this
        exact ge_of_lt_ge hl this
      · rw [if_neg e2]
        by_cases e3 : i = (j - 1) / 2
        · rw [if_pos e3]
          exact h2 j hj hjn e3.symm h0
        · rw [if_neg e3]
          exact h1 j hj hjn (Ne.symm e1)
  · rw [swap_len] at hjn
    have hpu : (u - 1) / 2 < u := by omega
    rw [key j, key ((u - 1) / 2), if_neg (by omega : ¬ u = j), if_neg (by omega : ¬ u = (u - 1) / 2), if_neg (by omega : ¬ i = (u - 1) / 2)]
    have hu1 := h1 u hu0 hul (by omega)
    by_cases e1 : i = j
    · rw [if_pos e1]; exact hu1
    · rw [if_neg e1]
      have := h1 j hj hjn (Ne.symm e1)
      rw [hjp] at this
      exact ge_trans this hu1
theorem up_law : ∀ (f : Nat) (xs : List S30) (i : Nat), i < xs.length → i ≤ f → UpInv xs i → Heaped (upF f xs i) ∧ (upF f xs i).Perm xs := by
  intro f
  induction f with
  | zero =>
    intro xs i hi hf hv
    obtain rfl : i = 0 := by omega
    exact ⟨fun j hj hjn => hv.1 j hj hjn (by omega), List.Perm.refl _⟩
  | succ f ih =>
    intro xs i hi hf hv
    unfold upF
    by_cases h : 0 < i ∧ ltb (at_ xs i) (at_ xs ((i - 1) / 2)) = true
    · rw [if_pos h]
      obtain ⟨h1, h2⟩ := ih _ ((i - 1) / 2) (by rw [swap_len]; omega) (by omega) (up_step hi h.1 h.2 hv)
      exact ⟨h1, h2.trans (swap_perm hi (by omega))⟩
    · rw [if_neg h]
      refine ⟨fun j hj hjn => ?_, List.Perm.refl _⟩
      by_cases e : j = i
      · subst e
        cases hb : ltb (at_ xs j) (at_ xs ((j - 1) / 2))
        · rfl
        · exact absurd ⟨hj, hb⟩ h
      · exact hv.1 j hj hjn e
/-- A spot more. -/
def putF (xs : List S30) (s : S30) : List S30 := upF xs.length (xs ++ [s]) xs.length
theorem at_app {xs : List S30} {s : S30} {j : Nat} (h : j < xs.length) : at_ (xs ++ [s]) j = at_ xs j := by
  unfold at_
  rw [List.getD_eq_getElem?_getD, List.getD_eq_getElem?_getD, List.getElem?_append_left h]
theorem put_law (xs : List S30) (s : S30) (h : Heaped xs) : Heaped (putF xs s) ∧ (putF xs s).Perm (xs ++ [s]) := by
  refine up_law _ _ _ (by simp) (Nat.le_refl _) ⟨fun j hj hjn hne => ?_, fun j hj hjn hp => ?_⟩
  · simp at hjn
    rw [at_app (by omega), at_app (by omega)]
    exact h j hj (by omega)
  · simp at hjn
    omega

def leastF (xs : List S30) (i : Nat) : Nat :=
  if 2 * i + 2 < xs.length ∧ ltb (at_ xs (2 * i + 2)) (at_ xs (if 2 * i + 1 < xs.length ∧ ltb (at_ xs (2 * i + 1)) (at_ xs i) = true then 2 * i + 1 else i)) = true then 2 * i + 2
  else if 2 * i + 1 < xs.length ∧ ltb (at_ xs (2 * i + 1)) (at_ xs i) = true then 2 * i + 1 else i
theorem least_law (xs : List S30) (i : Nat) (hi : i < xs.length) : leastF xs i < xs.length ∧ (leastF xs i = i ∨ ((leastF xs i = 2 * i + 1 ∨ leastF xs i = 2 * i + 2) ∧ ltb (at_ xs (leastF xs i)) (at_ xs i) = true)) ∧
    (∀ j, 0 < j → j < xs.length → (j - 1) / 2 = i → ltb (at_ xs j) (at_ xs (leastF xs i)) = false) := by
  unfold leastF
  by_cases h1 : 2 * i + 1 < xs.length ∧ ltb (at_ xs (2 * i + 1)) (at_ xs i) = true
  · rw [if_pos h1]
    by_cases h2 : 2 * i + 2 < xs.length ∧ ltb (at_ xs (2 * i + 2)) (at_ xs (2 * i + 1)) = true
    · rw [if_pos h2]
      have h3 : ltb (at_ xs (2 * i + 2)) (at_ xs i) = true := by
        have a := h1.2
        have b := h2.2
        rw [ltb_iff] at *
        omega
      refine ⟨h2.1, .inr ⟨.inr rfl, h3⟩, fun j hj hjn hp => ?_⟩
      have : j = 2 * i + 1 ∨ j = 2 * i + 2 := by omega
      rcases this with rfl | rfl
      · exact ltb_asymm h2.2
      · exact ltb_irrefl _
    · rw [if_neg h2]
      refine ⟨h1.1, .inr ⟨.inl rfl, h1.2⟩, fun j hj hjn hp => ?_⟩
      have : j = 2 * i + 1 ∨ j = 2 * i + 2 := by omega
      rcases this with rfl | rfl
      · exact ltb_irrefl _
      · cases hb : ltb (at_ xs (2 * i + 2)) (at_ xs (2 * i + 1))
        · rfl
        · exact absurd ⟨hjn, hb⟩ h2
  · rw [if_neg h1]
    have k1 : 2 * i + 1 < xs.length → ltb (at_ xs (2 * i + 1)) (at_ xs i) = false := by
      intro hn
      cases hb : ltb (at_ xs (2 * i + 1)) (at_ xs i)
      · rfl
      · exact absurd ⟨hn, hb⟩ h1
    by_cases h2 : 2 * i + 2 < xs.length ∧ ltb (at_ xs (2 * i + 2)) (at_ xs i) = true
    · rw [if_pos h2]
      refine ⟨h2.1, .inr ⟨.inr rfl, h2.2⟩, fun j hj hjn hp => ?_⟩
      have : j = 2 * i + 1 ∨ j = 2 * i + 2 := by omega
      rcases this with rfl | rfl
      · have := k1 hjn
        have b := h2.2
        exact ge_of_lt_ge b this
      · exact ltb_irrefl _
    · rw [if_neg h2]
      refine ⟨hi, .inl rfl, fun j hj hjn hp => ?_⟩
      have : j = 2 * i + 1 ∨ j = 2 * i + 2 := by omega
      rcases this with rfl | rfl
      · exact k1 hjn
      · cases hb : ltb (at_ xs (2 * i + 2)) (at_ xs i)
        · rfl
        · exact absurd ⟨hjn, hb⟩ h2

def downF : Nat → List S30 → Nat → List S30
  | 0, xs, _ => xs
  | f + 1, xs, i => if leastF xs i = i then xs else downF f (swapL xs i (leastF xs i)) (leastF xs i)
def DownInv (xs : List S30) (i : Nat) : Prop := (∀ j, 0 < j → j < xs.length → (j - 1) / 2 ≠ i → ltb (at_ xs j) (at_ xs ((j - 1) / 2)) = false) ∧
  (∀ j, 0 < j → j < xs.length → (j - 1) / 2 = i → 0 < i → ltb (at_ xs j) (at_ xs ((i - 1) / 2)) = false)
theorem down_step {xs : List S30} {i k : Nat} (hi : i < xs.length) (hkn : k < xs.length) (hk : k = 2 * i + 1 ∨ k = 2 * i + 2) (hl : ltb (at_ xs k) (at_ xs i) = true)
    (hm : ∀ j, 0 < j → j < xs.length → (j - 1) / 2 = i → ltb (at_ xs j) (at_ xs k) = false) (hv : DownInv xs i) : DownInv (swapL xs i k) k := by
  obtain ⟨h1, h2⟩ := hv
  have key : ∀ j, at_ (swapL xs i k) j = if k = j then at_ xs i else if i = j then at_ xs k else at_ xs j := at_swap hi hkn
  have hkp : (k - 1) / 2 = i := by omega
  refine ⟨fun j hj hjn hne => ?_, fun j hj hjn hjp _ => ?_⟩
  · rw [swap_len] at hjn
    rw [key j, key ((j - 1) / 2), if_neg (Ne.symm hne)]
    by_cases e1 : k = j
    · subst e1
      rw [if_pos rfl, if_pos hkp.symm]
      exact ltb_asymm hl
    · rw [if_neg e1]
      by_cases e2 : i = j
      · subst e2
        rw [if_pos rfl, if_neg (by omega : ¬ i = (i - 1) / 2)]
        exact h2 k (by omega) hkn hkp hj
      · rw [if_neg e2]
        by_cases e3 : i = (j - 1) / 2
        · rw [if_pos e3]
          exact hm j hj hjn e3.symm
        · rw [if_neg e3]
          exact h1 j hj hjn (Ne.symm e3)
  · rw [swap_len] at hjn
    rw [key j, key ((k - 1) / 2), if_neg (by omega : ¬ k = j), if_neg (by omega : ¬ i = j), if_neg (by omega : ¬ k = (k - 1) / 2), if_pos hkp.symm]
    have := h1 j hj hjn (by omega)
    rw [hjp] at this
    exact this
theorem down_law : ∀ (f : Nat) (xs : List S30) (i : Nat), i < xs.length → xs.length ≤ f + i → DownInv xs i → Heaped (downF f xs i) ∧ (downF f xs i).Perm xs := by
  intro f
  induction f with
  | zero => intro xs i hi hf _; omega
  | succ f ih =>
    intro xs i hi hf hv
    obtain ⟨l1, l2, l3⟩ := least_law xs i hi
    unfold downF
    by_cases h : leastF xs i = i
    · rw [if_pos h]
      refine ⟨fun j hj hjn => ?_, List.Perm.refl _⟩
      by_cases e : (j - 1) / 2 = i
      · have := l3 j hj hjn e
        rw [h] at this
        rw [e]; exact this
      · exact hv.1 j hj hjn e
    · rw [if_neg h]
      rcases l2 with l2 | ⟨l2, l4⟩
      · exact absurd l2 h
      · obtain ⟨h1, h2⟩ := ih _ (leastF xs i) (by rw [swap_len]; exact l1) (by rw [swap_len]; omega) (down_step hi l1 l2 l4 l3 hv)
        exact ⟨h1, h2.trans (swap_perm hi l1)⟩
/-- Without the first one. -/
def dropF (xs : List S30) : List S30 := (xs.set 0 (at_ xs (xs.length - 1))).take (xs.length - 1)
def takeF (xs : List S30) : List S30 := downF (dropF xs).length (dropF xs) 0
theorem drop_len (xs : List S30) : (dropF xs).length = xs.length - 1 := by unfold dropF; simp
theorem take_law (xs : List S30) (h : Heaped xs) (h0 : 0 < xs.length) : Heaped (takeF xs) ∧ (at_ xs 0 :: takeF xs).Perm xs := by
  have hat : ∀ j, j < xs.length - 1 → at_ (dropF xs) j = if j = 0 then at_ xs (xs.length - 1) else at_ xs j := by
    intro j hj
    unfold dropF
    have this : ∀ z, at_ ((xs.set 0 z).take (xs.length - 1)) j = at_ (xs.set 0 z) j := by
      intro z
      unfold at_
      rw [List.getD_eq_getElem?_getD, List.getD_eq_getElem?_getD, List.getElem?_take, if_pos hj]
    rw [this, at_set h0]
    by_cases e : j = 0
    · rw [if_pos e.symm, if_pos e]
    · rw [if_neg (Ne.symm e), if_neg e]
  have hp : (at_ xs 0 :: dropF xs).Perm xs := by
    unfold dropF
    cases xs with
    | nil => simp at h0
    | cons x ys =>
      show (x :: ((x :: ys).set 0 _).take _).Perm _
      rw [List.set_cons_zero]
      rcases List.eq_nil_or_concat ys with rfl | ⟨zs, z, rfl⟩
      · simp
      · have e1 : at_ (x :: (zs ++ [z])) ((x :: (zs ++ [z])).length - 1) = z := by
          unfold at_
          simp
        rw [List.concat_eq_append] at *
        rw [e1]
        have e2 : (z :: (zs ++ [z])).take ((x :: (zs ++ [z])).length - 1) = z :: zs := by simp
        rw [e2]
        refine List.Perm.cons x ?_
        exact (List.perm_append_singleton z zs).symm
  rcases Nat.eq_zero_or_pos (dropF xs).length with hz | hz
  · have e : takeF xs = dropF xs := by unfold takeF; rw [hz]; rfl
    rw [e]
    exact ⟨fun j hj hjn => by omega, hp⟩
  · have hl := drop_len xs
    obtain ⟨h1, h2⟩ := down_law (dropF xs).length (dropF xs) 0 hz (by omega) ⟨fun j hj hjn hne => by
      rw [hat j (by omega), hat ((j - 1) / 2) (by omega), if_neg (by omega), if_neg hne]
      exact h j hj (by omega), fun j hj hjn hp h00 => by omega⟩
    exact ⟨h1, (List.Perm.cons _ h2).trans hp⟩
/-- The first one is the nearest one. -/
theorem heap_min (xs : List S30) (h : Heaped xs) : ∀ j, j < xs.length → ltb (at_ xs j) (at_ xs 0) = false := by
  intro j
  induction j using Nat.strongRecOn with
  | ind j ih =>
    intro hj
    rcases Nat.eq_zero_or_pos j with rfl | h0
    · exact ltb_irrefl _
    · exact ge_trans (h j h0 hj) (ih ((j - 1) / 2) (by omega) (by omega))
theorem heap_min_mem (xs : List S30) (h : Heaped xs) : ∀ x ∈ xs, ltb x (at_ xs 0) = false := by
  intro x hx
  obtain ⟨j, hj, rfl⟩ := List.getElem_of_mem hx
  have := heap_min xs h j hj
  rwa [at_get hj] at this
end Go.Proofs.Ytdkobokdeofiiaa.Hp
