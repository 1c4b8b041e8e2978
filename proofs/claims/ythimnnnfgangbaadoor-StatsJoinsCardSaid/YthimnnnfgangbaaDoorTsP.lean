/- Two tallies joined are as one, as plain lists. -/
import Derived.Test.YthimnnnfgangbaaDoorTsE
set_option linter.unusedVariables false
set_option linter.unusedSimpArgs false
namespace Go.Proofs.YthimnnnfgangbaaDoor.Ts
open Go.RowKit Go.Proofs.YthimnnnfgangbaaDoor.Qr
theorem plus_assoc (a b c : Nat) (ha : W64 a) (hb : W64 b) (hc : W64 c) : plus a (plus b c) = plus (plus a b) c := by
  unfold plus W64 at *
  split <;> split <;> split <;> (try split) <;> omega
theorem plus_comm (a b : Nat) : plus a b = plus b a := by unfold plus; rw [Nat.add_comm]
theorem plus_zero {a : Nat} (h : W64 a) : plus a 0 = a := by unfold plus W64 at *; rw [if_neg (by omega)]; rfl
theorem zip_set (a b : List Nat) (k : Nat) (h : a.length = b.length) (hk : k < b.length) : List.zipWith (· + ·) a (b.set k (b.getD k 0 + 1)) = (List.zipWith (· + ·) a b).set k ((List.zipWith (· + ·) a b).getD k 0 + 1) := by
  have hk' : k < a.length := by omega
  have e1 : b.getD k 0 = b[k] := by rw [List.getD_eq_getElem?_getD, List.getElem?_eq_getElem hk]; rfl
  have e2 : (List.zipWith (· + ·) a b).getD k 0 = a[k] + b[k] := by
    rw [List.getD_eq_getElem?_getD, List.getElem?_eq_getElem (by simp; omega)]
    simp
  rw [e1, e2]
  apply List.ext_getElem
  · simp
  · intro i h1 h2
    simp only [List.getElem_zipWith, List.getElem_set]
    by_cases hi : k = i
    · subst hi
      simp
      omega
    · simp [hi]
theorem zip_zero (a : List Nat) (n : Nat) (h : a.length = n) : List.zipWith (· + ·) a (List.replicate n 0) = a := by
  apply List.ext_getElem
  · simp [h]
  · intro i h1 h2
    simp
theorem zip_comm (a b : List Nat) : List.zipWith (· + ·) a b = List.zipWith (· + ·) b a := by
  rw [List.zipWith_comm]
  congr 1
  funext x y
  exact Nat.add_comm _ _
theorem T_ext {a b : T} (h1 : a.c = b.c) (h2 : a.s = b.s) (h3 : a.l = b.l) (h4 : a.m = b.m) (h5 : a.st = b.st) : a = b := by
  cases a; cases b; simp_all
theorem join_t0 (t : T) : t.join t0 = t := if_pos rfl
theorem t0_join {t : T} {n : Nat} (h : Fine t n) (h0 : t.c = 0 → t = t0) : t0.join t = t := by
  by_cases hc : t.c = 0
  · rw [h0 hc]; rfl
  · unfold T.join
    rw [if_neg hc]
    refine T_ext ?_ ?_ ?_ ?_ ?_
    · show 0 + t.c = t.c; omega
    · show plus 0 t.s = t.s; rw [plus_comm, plus_zero h.s]
    · show (if t0.c = 0 ∨ t.l < t0.l then t.l else t0.l) = t.l; rw [if_pos (.inl rfl)]
    · show max 0 t.m = t.m; omega
    · show List.zipWith (· + ·) (List.replicate 65 0) t.st = t.st; rw [zip_comm, zip_zero _ _ h.len]
theorem join_comm {t o : T} {n m : Nat} (ht : Fine t n) (ho : Fine o m) (h0 : t.c = 0 → t = t0) (h1 : o.c = 0 → o = t0) : t.join o = o.join t := by
  by_cases ho0 : o.c = 0
  · rw [h1 ho0, join_t0, t0_join ht h0]
  by_cases ht0 : t.c = 0
  · rw [h0 ht0, join_t0, t0_join ho h1]
  unfold T.join
  rw [if_neg ho0, if_neg ht0]
  refine T_ext ?_ ?_ ?_ ?_ ?_
  · exact Nat.add_comm _ _
  · exact plus_comm _ _
  · show (if t.c = 0 ∨ o.l < t.l then o.l else t.l) = if o.c = 0 ∨ t.l < o.l then t.l else o.l
    split <;> split <;> omega
  · show max t.m o.m = max o.m t.m; omega
  · exact zip_comm _ _
theorem join_add {t u : T} {n m x : Nat} (ht : Fine t n) (hu : Fine u m) (hx : W64 x) (h0 : u.c = 0 → u = t0) : t.join (u.add x) = (t.join u).add x := by
  have hb := bl_lt hx
  have hne : ¬ (u.add x).c = 0 := by show ¬ u.c + 1 = 0; omega
  by_cases hu0 : u.c = 0
  · rw [h0 hu0, join_t0]
    unfold T.join
    rw [if_neg (by show ¬ t0.c + 1 = 0; omega)]
    refine T_ext ?_ ?_ ?_ ?_ ?_
    · rfl
    · show plus t.s (plus 0 x) = plus t.s x; rw [plus_comm 0 x, plus_zero hx]
    · show (if t.c = 0 ∨ (if t0.c = 0 ∨ x < t0.l then x else t0.l) < t.l then (if t0.c = 0 ∨ x < t0.l then x else t0.l) else t.l) = if t.c = 0 ∨ x < t.l then x else t.l
      rw [if_pos (c := t0.c = 0 ∨ x < t0.l) (.inl rfl)]
    · show max t.m (max 0 x) = max t.m x; omega
    · show List.zipWith (· + ·) t.st ((List.replicate 65 0).set (bl x) ((List.replicate 65 0).getD (bl x) 0 + 1)) = t.st.set (bl x) (t.st.getD (bl x) 0 + 1)
      rw [zip_set _ _ _ (by simp [ht.len]) (by simpa using hb), zip_zero _ _ ht.len]
  · have hj : t.join u = ⟨t.c + u.c, plus t.s u.s, if t.c = 0 ∨ u.l < t.l then u.l else t.l, max t.m u.m, List.zipWith (· + ·) t.st u.st⟩ := if_neg hu0
    rw [hj]
    unfold T.join
    rw [if_neg hne]
    refine T_ext ?_ ?_ ?_ ?_ ?_
    · show t.c + (u.c + 1) = t.c + u.c + 1; omega
    · exact plus_assoc _ _ _ ht.s hu.s hx
    · show (if t.c = 0 ∨ (if u.c = 0 ∨ x < u.l then x else u.l) < t.l then (if u.c = 0 ∨ x < u.l then x else u.l) else t.l) = if t.c + u.c = 0 ∨ x < (if t.c = 0 ∨ u.l < t.l then u.l else t.l) then x else (if t.c = 0 ∨ u.l < t.l then u.l else t.l)
      split <;> split <;> split <;> (try split) <;> omega
    · show max t.m (max u.m x) = max (max t.m u.m) x; omega
    · exact zip_set _ _ _ (by rw [ht.len, hu.len]) (by rw [hu.len]; exact hb)
theorem tal_zero (l : List Nat) (h : (tal l).c = 0) (hl : ∀ x ∈ l, W64 x) : tal l = t0 := by
  rw [(fine_tal l hl).c] at h
  rw [List.length_eq_zero_iff.1 h]
  rfl
theorem tal_append (a b : List Nat) (ha : ∀ x ∈ a, W64 x) (hb : ∀ x ∈ b, W64 x) : (tal a).join (tal b) = tal (a ++ b) := by
  have key : ∀ n, ∀ b : List Nat, b.length = n → (∀ x ∈ b, W64 x) → (tal a).join (tal b) = tal (a ++ b) := by
    intro n
    induction n with
    | zero =>
      intro b hn _
      rw [List.length_eq_zero_iff.1 hn, List.append_nil]
      exact join_t0 _
    | succ n ih =>
      intro b hn hb
      obtain ⟨r, x, rfl⟩ : ∃ r x, b = r ++ [x] := ⟨b.dropLast, b.getLast (by intro e; rw [e] at hn; simp at hn), (List.dropLast_concat_getLast _).symm⟩
      have hr : ∀ y ∈ r, W64 y := fun y hy => hb y (List.mem_append_left _ hy)
      rw [tal_snoc, ← List.append_assoc, tal_snoc, ← ih r (by simpa using hn) hr]
      exact join_add (fine_tal a ha) (fine_tal r hr) (hb x (by simp)) (fun h => tal_zero r h hr)
  exact key b.length b rfl hb
theorem tal_append' (a b : List Nat) (ha : ∀ x ∈ a, W64 x) (hb : ∀ x ∈ b, W64 x) : (tal b).join (tal a) = tal (a ++ b) := by
  rw [← tal_append a b ha hb]
  exact join_comm (fine_tal b hb) (fine_tal a ha) (fun h => tal_zero b h hb) (fun h => tal_zero a h ha)
end Go.Proofs.YthimnnnfgangbaaDoor.Ts
