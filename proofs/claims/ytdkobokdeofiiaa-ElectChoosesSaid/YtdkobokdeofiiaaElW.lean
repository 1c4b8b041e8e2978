/- The reference's best, runner, Choose, Take and Settle find the same, for voters that may be. -/
import Derived.Test.YtdkobokdeofiiaaElV
set_option linter.unusedVariables false
set_option linter.unusedSimpArgs false
namespace Go.Proofs.Ytdkobokdeofiiaa.El
open Go.RowKit Go.Proofs.YtdkobokdeofiiaaW.PrintWords Go.Proofs.YtdkobokdeofiiaaW.PrintLast Go.Proofs.YtdkobokdeofiiaaW.PrintMore

/-- Nodes from one on, each greater than the one ahead. -/
def Inc (xs : List S52) : Prop := xs.Pairwise (fun x y => x.f0 < y.f0) ∧ ∀ x ∈ xs, 0 < x.f0
theorem inc_of_ok : ∀ (xs : List S52) (last : Int), 0 ≤ last → okFrom last xs = true → Inc xs := by
  intro xs
  induction xs with
  | nil => intro _ _ _; exact ⟨List.Pairwise.nil, fun x hx => by simp at hx⟩
  | cons x xs ih =>
    intro last h0 h
    simp only [okFrom, Bool.and_eq_true, decide_eq_true_eq] at h
    obtain ⟨h1, h2⟩ := h
    have hx := h1.1
    have hi := ih x.f0 (by omega) h2
    refine ⟨List.Pairwise.cons (fun y hy => (ok_all h2 y hy).1) hi.1, fun y hy => ?_⟩
    rcases List.mem_cons.1 hy with rfl | hy
    · omega
    · exact hi.2 y hy
theorem Inc.filter {xs : List S52} (h : Inc xs) (p : S52 → Bool) : Inc (xs.filter p) := ⟨h.1.filter p, fun x hx => h.2 x ((List.mem_filter.1 hx).1)⟩
theorem Inc.drop {xs : List S52} (h : Inc xs) (n : Nat) : Inc (xs.drop n) := ⟨h.1.drop, fun x hx => h.2 x (List.mem_of_mem_drop hx)⟩

/-- Among some is as among those alone. -/
theorem best_filter (p q : S52 → Bool) (xs : List S52) : ∀ s, xs.foldl (bestS (fun x => p x && q x)) s = (xs.filter p).foldl (bestS q) s := by
  induction xs with
  | nil => intro s; rfl
  | cons x xs ih =>
    intro s
    rw [List.foldl_cons, ih]
    by_cases hp : p x = true
    · rw [List.filter_cons, if_pos hp, List.foldl_cons]
      congr 1
      unfold bestS
      simp [hp]
    · rw [List.filter_cons, if_neg hp]
      congr 1
      unfold bestS
      rw [if_neg (by simp [hp])]
theorem bestF_filter (p : S52 → Bool) (xs : List S52) : bestF p xs = bestF (fun _ => true) (xs.filter p) := by
  have := best_filter p (fun _ => true) xs (0, 0)
  unfold bestF
  rw [← this]
  congr 1
  funext s x
  unfold bestS
  simp
theorem runF_filter (p : S52 → Bool) (xs : List S52) : runF p xs = runF (fun _ => true) (xs.filter p) := by
  have h1 : bestF (fun x => p x && (x.f3 == x.f0)) xs = bestF (fun x => true && (x.f3 == x.f0)) (xs.filter p) := by
    unfold bestF
    rw [best_filter p (fun x => x.f3 == x.f0) xs (0, 0)]
    congr 1
  unfold runF
  rw [h1, bestF_filter p xs]

theorem refbest_loop (xs : List S52) (hn : xs.length ≤ 1000000) (d : Nat) : ∀ (k i : Nat) (b0 b1 b2 b3 : Int), i + d = xs.length → d < k → 0 ≤ b1 → (∀ y ∈ xs.drop i, b0 < y.f0) → (xs.drop i).Pairwise (fun x y => x.f0 < y.f0) →
    waymarkref55_best.l0 k xs (i : Int) b0 b1 b2 b3 = some ((xs.drop i).foldl (bestS (fun _ => true)) (b0, b1)).1 := by
  induction d with
  | zero =>
    intro k i b0 b1 b2 b3 hi hk _ _ _
    obtain ⟨k, rfl⟩ : ∃ m, k = m + 1 := ⟨k - 1, by omega⟩
    simp only [waymarkref55_best.l0]
    rw [if_neg (by omega), List.drop_of_length_le (by omega)]
    rfl
  | succ d ih =>
    intro k i b0 b1 b2 b3 hi hk hb hgt hpw
    obtain ⟨k, rfl⟩ : ∃ m, k = m + 1 := ⟨k - 1, by omega⟩
    obtain ⟨x, hx, hd⟩ := drop_some (xs := xs) (i := i) (by omega)
    simp only [waymarkref55_best.l0]
    rw [if_pos (by omega), if_pos (by omega), rd_some hx, w1 i (by omega)]
    rw [hd] at hgt hpw ⊢
    have hx0 := hgt x List.mem_cons_self
    obtain ⟨hpx, hpw'⟩ := List.pairwise_cons.1 hpw
    have hgt' : ∀ y ∈ xs.drop (i + 1), b0 < y.f0 := fun y hy => hgt y (List.mem_cons_of_mem _ hy)
    rw [List.foldl_cons]
    by_cases h1 : x.f1 > b1
    · have e : bestS (fun _ => true) (b0, b1) x = (x.f0, x.f1) := by unfold bestS; rw [if_pos ⟨by omega, by show b1 ≤ x.f1; omega, rfl⟩]
      rw [if_pos h1, e]
      exact ih k (i + 1) _ _ _ _ (by omega) (by omega) (by omega) hpx hpw'
    · rw [if_neg h1]
      by_cases h2 : x.f1 = b1
      · rw [if_pos h2]
        by_cases h3 : x.f1 > 0
        · have e : bestS (fun _ => true) (b0, b1) x = (x.f0, x.f1) := by unfold bestS; rw [if_pos ⟨h3, by show b1 ≤ x.f1; omega, rfl⟩]
          rw [if_pos h3, if_pos hx0, e]
          exact ih k (i + 1) _ _ _ _ (by omega) (by omega) (by omega) hpx hpw'
        · have e : bestS (fun _ => true) (b0, b1) x = (b0, b1) := by unfold bestS; rw [if_neg (fun h => h3 h.1)]
          rw [if_neg h3, e]
          exact ih k (i + 1) _ _ _ _ (by omega) (by omega) hb hgt' hpw'
      · have e : bestS (fun _ => true) (b0, b1) x = (b0, b1) := by unfold bestS; rw [if_neg (fun h => by have := h.2.1; simp at this; omega)]
        rw [if_neg h2, e]
        exact ih k (i + 1) _ _ _ _ (by omega) (by omega) hb hgt' hpw'
theorem refbest (xs : List S52) (hn : xs.length ≤ 1000000) (hi : Inc xs) (k : Nat) (hk : xs.length < k) : waymarkref55_best.f k xs = some (bestF (fun _ => true) xs).1 := by
  unfold waymarkref55_best.f
  have := refbest_loop xs hn xs.length k 0 0 0 0 0 (by omega) hk (by omega) (by simpa using hi.2) (by simpa using hi.1)
  simpa [bestF] using this

theorem refrun_loop (xs : List S52) (hn : xs.length ≤ 1000000) (hinc : Inc xs) (d : Nat) : ∀ (k i : Nat), i + d = xs.length → d + xs.length + 1 < k →
    waymarkref55_runner.l0 k xs ((xs.take i).filter fun x => x.f3 == x.f0) (i : Int) = some (runF (fun _ => true) xs) := by
  induction d with
  | zero =>
    intro k i hi hk
    obtain ⟨k, rfl⟩ : ∃ m, k = m + 1 := ⟨k - 1, by omega⟩
    simp only [waymarkref55_runner.l0]
    have hfl := List.length_filter_le (fun x : S52 => x.f3 == x.f0) xs
    rw [if_neg (by omega), List.take_of_length_le (by omega), refbest _ (by omega) (hinc.filter _) k (by omega), refbest xs hn hinc k (by omega)]
    simp only [Option.bind_some]
    have e : bestF (fun x => true && (x.f3 == x.f0)) xs = bestF (fun _ => true) (xs.filter fun x => x.f3 == x.f0) := by
      rw [← bestF_filter]
      simp
    unfold runF
    rw [e]
    by_cases h : (bestF (fun _ => true) (xs.filter fun x => x.f3 == x.f0)).1 > 0
    · rw [if_pos h, if_pos h]
    · rw [if_neg h, if_neg h]
  | succ d ih =>
    intro k i hi hk
    obtain ⟨k, rfl⟩ : ∃ m, k = m + 1 := ⟨k - 1, by omega⟩
    obtain ⟨x, hx, hd⟩ := drop_some (xs := xs) (i := i) (by omega)
    obtain ⟨hk2, hg⟩ := List.getElem?_eq_some_iff.1 hx
    have ht : xs.take (i + 1) = xs.take i ++ [x] := by rw [List.take_succ_eq_append_getElem hk2, hg]
    simp only [waymarkref55_runner.l0]
    have hfl := List.length_filter_le (fun x : S52 => x.f3 == x.f0) (xs.take i)
    have hfl2 : (xs.take i).length ≤ i := List.length_take_le _ _
    rw [if_pos (by omega), if_pos (by omega), rd_some hx, w1 i (by omega)]
    have hrec := ih k (i + 1) (by omega) (by omega)
    rw [ht, List.filter_append] at hrec
    by_cases h : x.f3 = x.f0
    · rw [if_pos h, if_pos (by omega)]
      rw [List.filter_cons, if_pos (by simpa using h), List.filter_nil] at hrec
      exact hrec
    · rw [if_neg h]
      rw [List.filter_cons, if_neg (by simpa using h), List.filter_nil, List.append_nil] at hrec
      exact hrec
theorem refrun (xs : List S52) (hn : xs.length ≤ 1000000) (hinc : Inc xs) (k : Nat) (hk : 2 * xs.length + 1 < k) : waymarkref55_runner.f k xs = some (runF (fun _ => true) xs) := by
  unfold waymarkref55_runner.f
  have := refrun_loop xs hn hinc xs.length k 0 (by omega) (by omega)
  simpa using this

theorem refchoose1_loop (xs : List S52) (hn : xs.length ≤ 1000000) (hinc : Inc xs) (f : Int) (d : Nat) : ∀ (k i : Nat), i + d = xs.length → d + 2 * xs.length + 2 < k →
    waymarkref55_Choose.l1 k xs f ((xs.take i).filter fun x => x.f0 != f) (i : Int) = some (f, runF (fun x => x.f0 != f) xs) := by
  induction d with
  | zero =>
    intro k i hi hk
    obtain ⟨k, rfl⟩ : ∃ m, k = m + 1 := ⟨k - 1, by omega⟩
    simp only [waymarkref55_Choose.l1]
    have hfl := List.length_filter_le (fun x : S52 => x.f0 != f) xs
    rw [if_neg (by omega), List.take_of_length_le (by omega), refrun _ (by omega) (hinc.filter _) k (by omega), runF_filter (fun x => x.f0 != f) xs]
    rfl
  | succ d ih =>
    intro k i hi hk
    obtain ⟨k, rfl⟩ : ∃ m, k = m + 1 := ⟨k - 1, by omega⟩
    obtain ⟨x, hx, hd⟩ := drop_some (xs := xs) (i := i) (by omega)
    obtain ⟨hk2, hg⟩ := List.getElem?_eq_some_iff.1 hx
    have ht : xs.take (i + 1) = xs.take i ++ [x] := by rw [List.take_succ_eq_append_getElem hk2, hg]
    simp only [waymarkref55_Choose.l1]
    have hfl := List.length_filter_le (fun x : S52 => x.f0 != f) (xs.take i)
    have hfl2 : (xs.take i).length ≤ i := List.length_take_le _ _
    rw [if_pos (by omega), if_pos (by omega), rd_some hx, w1 i (by omega)]
    have hrec := ih k (i + 1) (by omega) (by omega)
    rw [ht, List.filter_append] at hrec
    by_cases h : x.f0 = f
    · rw [if_pos h]
      rw [List.filter_cons, if_neg (by simpa using h), List.filter_nil, List.append_nil] at hrec
      exact hrec
    · rw [if_neg h, if_pos (by omega)]
      rw [List.filter_cons, if_pos (by simpa using h), List.filter_nil] at hrec
      exact hrec
theorem refchoose_loop (xs : List S52) (hn : xs.length ≤ 1000000) (hinc : Inc xs) (d : Nat) : ∀ (k i : Nat), i + d = xs.length → d + 3 * xs.length + 3 < k →
    waymarkref55_Choose.l0 k xs ((xs.take i).filter fun x => x.f2 == x.f0) ((xs.take i).filter fun x => x.f2 != x.f0) (i : Int) = some (chooseF xs) := by
  induction d with
  | zero =>
    intro k i hi hk
    obtain ⟨k, rfl⟩ : ∃ m, k = m + 1 := ⟨k - 1, by omega⟩
    simp only [waymarkref55_Choose.l0]
    have hfl := List.length_filter_le (fun x : S52 => x.f2 == x.f0) xs
    have hfl2 := List.length_filter_le (fun x : S52 => x.f2 != x.f0) xs
    rw [if_neg (by omega), List.take_of_length_le (by omega), refbest _ (by omega) (hinc.filter _) k (by omega), refrun _ (by omega) (hinc.filter _) k (by omega)]
    simp only [Option.bind_some]
    rw [← bestF_filter, ← runF_filter]
    unfold chooseF
    rcases best_two (fun x => x.f2 == x.f0) xs hinc.2 with ⟨b0, _⟩ | ⟨y, _, _, _, hy3, hy4⟩
    · rw [b0, if_neg (by omega), if_pos rfl]
      have := refchoose1_loop xs hn hinc (runF (fun x => x.f2 != x.f0) xs) xs.length k 0 (by omega) (by omega)
      simpa using this
    · rw [hy3, if_pos hy4, if_neg (by omega)]
  | succ d ih =>
    intro k i hi hk
    obtain ⟨k, rfl⟩ : ∃ m, k = m + 1 := ⟨k - 1, by omega⟩
    obtain ⟨x, hx, hd⟩ := drop_some (xs := xs) (i := i) (by omega)
    obtain ⟨hk2, hg⟩ := List.getElem?_eq_some_iff.1 hx
    have ht : xs.take (i + 1) = xs.take i ++ [x] := by rw [List.take_succ_eq_append_getElem hk2, hg]
    simp only [waymarkref55_Choose.l0]
    have hfl := List.length_filter_le (fun x : S52 => x.f2 == x.f0) (xs.take i)
    have hfl3 := List.length_filter_le (fun x : S52 => x.f2 != x.f0) (xs.take i)
    have hfl2 : (xs.take i).length ≤ i := List.length_take_le _ _
    rw [if_pos (by omega), if_pos (by omega), rd_some hx, w1 i (by omega)]
    have hrec := ih k (i + 1) (by omega) (by omega)
    rw [ht, List.filter_append, List.filter_append] at hrec
    by_cases h : x.f2 = x.f0
    · rw [if_pos h, if_pos (by omega)]
      rw [List.filter_cons, if_pos (by simpa using h), List.filter_nil, List.filter_cons, if_neg (by simpa using h), List.filter_nil, List.append_nil] at hrec
      exact hrec
    · rw [if_neg h, if_pos (by omega)]
      rw [List.filter_cons, if_neg (by simpa using h), List.filter_nil, List.append_nil, List.filter_cons, if_pos (by simpa using h), List.filter_nil] at hrec
      exact hrec
theorem refchoose (xs : List S52) (hn : xs.length ≤ 1000000) (hinc : Inc xs) (k : Nat) (hk : 4 * xs.length + 3 < k) : waymarkref55_Choose.f k xs = some (chooseF xs) := by
  unfold waymarkref55_Choose.f
  have := refchoose_loop xs hn hinc xs.length k 0 (by omega) (by omega)
  simpa using this

theorem reftake_loop (xs : List S52) (hn : xs.length ≤ 1000000) (a b : Int) (d : Nat) : ∀ (k i : Nat), i + d = xs.length → d < k → waymarkref55_Take.l0 k xs a b (takenF a b (xs.take i)) (i : Int) = some (takenF a b xs) := by
  induction d with
  | zero =>
    intro k i hi hk
    obtain ⟨k, rfl⟩ : ∃ m, k = m + 1 := ⟨k - 1, by omega⟩
    simp only [waymarkref55_Take.l0]
    rw [if_neg (by omega), List.take_of_length_le (by omega)]
  | succ d ih =>
    intro k i hi hk
    obtain ⟨k, rfl⟩ : ∃ m, k = m + 1 := ⟨k - 1, by omega⟩
    obtain ⟨x, hx, hd⟩ := drop_some (xs := xs) (i := i) (by omega)
    obtain ⟨hk2, hg⟩ := List.getElem?_eq_some_iff.1 hx
    have ht : xs.take (i + 1) = xs.take i ++ [x] := by rw [List.take_succ_eq_append_getElem hk2, hg]
    have hl := taken_len a b (xs.take i)
    have hfl2 : (xs.take i).length ≤ i := List.length_take_le _ _
    simp only [waymarkref55_Take.l0]
    rw [if_pos (by omega), if_pos (by omega), rd_some hx, w1 i (by omega), if_pos (by omega)]
    have hrec := ih k (i + 1) (by omega) (by omega)
    rw [ht] at hrec
    unfold takenF at hrec ⊢
    rw [List.map_append] at hrec
    exact hrec
theorem reftake (xs : List S52) (hn : xs.length ≤ 1000000) (a b : Int) (k : Nat) (hk : xs.length < k) : waymarkref55_Take.f k xs a b = some (takenF a b xs) := by
  unfold waymarkref55_Take.f
  have := reftake_loop xs hn a b xs.length k 0 (by omega) hk
  simpa [takenF] using this

theorem refsettle (xs : List S52) (hn : xs.length ≤ 70) (hok : okFrom 0 xs = true) : waymarkref55_Settle.f 1000 xs = some (settleF xs) := by
  obtain ⟨s1, s2⟩ := stays_law xs hok
  obtain ⟨r1, r2⟩ := choose_range xs hok
  have hset : settleF xs = if (chooseF (takenF (chooseF xs).1 (chooseF xs).2 xs)).2 = (chooseF xs).2 then ((chooseF xs).1, (chooseF xs).2, 1) else ((chooseF xs).1, (chooseF (takenF (chooseF xs).1 (chooseF xs).2 xs)).2, 2) := rfl
  unfold waymarkref55_Settle.f
  rw [refchoose xs (by omega) (inc_of_ok xs 0 (by omega) hok) 1000 (by omega)]
  simp only [Option.bind_some]
  rw [hset]
  clear hset
  generalize hf : (chooseF xs).1 = f at *
  generalize hs : (chooseF xs).2 = s at *
  have hk1 := taken_ok r1 r2 xs 0 hok
  have r3 := (choose_range _ hk1).2
  have l1 := taken_len f s xs
  generalize hb : (chooseF (takenF f s xs)).2 = b at *
  have e1 : chooseF (takenF f s xs) = (f, b) := Prod.ext s1 hb
  rw [s1] at s2
  rw [e1] at s2
  have hk2 := taken_ok r1 r3 xs 0 hok
  have l2 := taken_len f b xs
  have t1 : ∀ k, 300 < k → waymarkref55_Take.f k xs f s = some (takenF f s xs) := fun k hk => reftake xs (by omega) f s k (by omega)
  have t2 : ∀ k, 300 < k → waymarkref55_Take.f k xs f b = some (takenF f b xs) := fun k hk => reftake xs (by omega) f b k (by omega)
  have c1 : ∀ k, 300 < k → waymarkref55_Choose.f k (takenF f s xs) = some (f, b) := fun k hk => by rw [refchoose _ (by omega) (inc_of_ok _ 0 (by omega) hk1) k (by omega), e1]
  have c2 : ∀ k, 300 < k → waymarkref55_Choose.f k (takenF f b xs) = some (f, b) := fun k hk => by rw [refchoose _ (by omega) (inc_of_ok _ 0 (by omega) hk2) k (by omega), s2]
  have step : ∀ (k : Nat) (x y n : Int), waymarkref55_Settle.l0 (k + 1) xs x y n = if n < 5 then ((waymarkref55_Take.f k xs x y).bind fun t173 => ((waymarkref55_Choose.f k t173).bind fun bt176 => (if x = bt176.1 then (if y = bt176.2 then (some (bt176.1, bt176.2, n)) else (waymarkref55_Settle.l0 k xs bt176.1 bt176.2 (wrap64 (n + 1)))) else (waymarkref55_Settle.l0 k xs bt176.1 bt176.2 (wrap64 (n + 1)))))) else ((waymarkref55_Take.f k xs x y).bind fun t168 => ((waymarkref55_Choose.f k t168).bind fun bt171 => (some (bt171.1, bt171.2, 5)))) := fun k x y n => by simp only [waymarkref55_Settle.l0]
  have ew : wrap64 (1 + 1) = 2 := by unfold wrap64; omega
  rw [step 999, if_pos (by omega), t1 999 (by omega)]
  simp only [Option.bind_some]
  rw [c1 999 (by omega)]
  simp only [Option.bind_some, if_true]
  by_cases hbs : b = s
  · rw [if_pos hbs.symm, if_pos hbs, hbs]
  · rw [if_neg (fun e => hbs e.symm), if_neg hbs, ew, step 998, if_pos (by omega), t2 998 (by omega)]
    simp only [Option.bind_some]
    rw [c2 998 (by omega)]
    simp only [Option.bind_some, if_true]

theorem same_loop (xs : List S52) (hn : xs.length ≤ 1000000) (d : Nat) : ∀ (k i : Nat), i + d = xs.length → d < k → waymarklaw55_same.l0 k xs xs (i : Int) = some true := by
  induction d with
  | zero =>
    intro k i hi hk
    obtain ⟨k, rfl⟩ : ∃ m, k = m + 1 := ⟨k - 1, by omega⟩
    simp only [waymarklaw55_same.l0]
    rw [if_neg (by omega)]
  | succ d ih =>
    intro k i hi hk
    obtain ⟨k, rfl⟩ : ∃ m, k = m + 1 := ⟨k - 1, by omega⟩
    simp only [waymarklaw55_same.l0]
    rw [if_pos (by omega), if_pos (by omega), if_pos (by omega), w1 i (by omega), if_neg (by simp)]
    exact ih k (i + 1) (by omega) (by omega)
theorem same_f (xs : List S52) (hn : xs.length ≤ 1000000) : waymarklaw55_same.f (xs.length + 1) xs xs = some true := by
  unfold waymarklaw55_same.f
  rw [if_pos rfl]
  have := same_loop xs hn xs.length (xs.length + 1) 0 (by omega) (by omega)
  simpa using this
end Go.Proofs.Ytdkobokdeofiiaa.El
