/- Plain laws on texts: the pieces of a text between a byte, decimal numerals read back, for every text, without conditions. -/
import Derived.Lib.SplitLaws
import Derived.Lib.CutLaws
import Derived.Lib.ItoaNum
import Derived.Lib.AtoiAll
import Derived.Lib.Join
set_option linter.unusedVariables false
set_option linter.unusedSimpArgs false
namespace Go.Proofs.YtagpkphehkfjgaaDoor.Px
/-- A decimal numeral. -/
abbrev dd (u : Nat) : List UInt8 := Lib.decDigits u
theorem dd_small {u : Nat} (h : u < 10) : dd u = [UInt8.ofNat (48 + u)] := by unfold dd; rw [Lib.decDigits, dif_pos h]
theorem dd_big {u : Nat} (h : ¬ u < 10) : dd u = dd (u / 10) ++ [UInt8.ofNat (48 + u % 10)] := by unfold dd; rw [Lib.decDigits, dif_neg h]
theorem digit_nat {d : Nat} (h : d < 10) : (UInt8.ofNat (48 + d)).toNat = 48 + d := by
  rw [UInt8.toNat_ofNat']; omega
theorem dd_ind (P : Nat → List UInt8 → Prop) (h0 : ∀ u, u < 10 → P u [UInt8.ofNat (48 + u)]) (h1 : ∀ u, 10 ≤ u → P (u / 10) (dd (u / 10)) → P u (dd (u / 10) ++ [UInt8.ofNat (48 + u % 10)])) (u : Nat) : P u (dd u) := by
  induction u using Nat.strongRecOn with
  | _ u ih =>
    by_cases h : u < 10
    · rw [dd_small h]; exact h0 u h
    · rw [dd_big h]; exact h1 u (by omega) (ih _ (by omega))
theorem dd_digits (u : Nat) : ∀ b ∈ dd u, 48 ≤ b.toNat ∧ b.toNat ≤ 57 := by
  refine dd_ind (fun _ l => ∀ b ∈ l, 48 ≤ b.toNat ∧ b.toNat ≤ 57) ?_ ?_ u
  · intro u hu b hb
    obtain rfl := List.mem_singleton.1 hb
    rw [digit_nat hu]; omega
  · intro u hu ih b hb
    rcases List.mem_append.1 hb with hb | hb
    · exact ih b hb
    · obtain rfl := List.mem_singleton.1 hb
      rw [digit_nat (by omega)]; omega
theorem dd_ne (u : Nat) : dd u ≠ [] := by
  refine dd_ind (fun _ l => l ≠ []) ?_ ?_ u
  · intro u _; simp
  · intro u _ _; simp
theorem dd_not {u : Nat} {c : UInt8} (h : c.toNat < 48 ∨ 57 < c.toNat) : c ∉ dd u := fun hc => by
  have := dd_digits u c hc
  omega
/-- What a row of digits spells. -/
def val (l : List UInt8) : Nat := l.foldl (fun n b => 10 * n + (b.toNat - 48)) 0
theorem val_snoc (l : List UInt8) (b : UInt8) : val (l ++ [b]) = 10 * val l + (b.toNat - 48) := by
  unfold val; rw [List.foldl_append]; rfl
theorem val_dd (u : Nat) : val (dd u) = u := by
  refine dd_ind (fun u l => val l = u) ?_ ?_ u
  · intro u hu
    show 10 * 0 + ((UInt8.ofNat (48 + u)).toNat - 48) = u
    rw [digit_nat hu]; omega
  · intro u hu ih
    rw [val_snoc, ih, digit_nat (by omega)]; omega
theorem dd_inj {u v : Nat} (h : dd u = dd v) : u = v := by rw [← val_dd u, h, val_dd]
theorem dd_len10 {u : Nat} (k : Nat) (h : u < 10 ^ (k + 1)) : (dd u).length ≤ k + 1 := by
  induction k generalizing u with
  | zero => rw [dd_small (by simpa using h)]; simp
  | succ k ih =>
    by_cases h1 : u < 10
    · rw [dd_small h1]; simp
    · rw [dd_big h1, List.length_append]
      have := ih (u := u / 10) (by rw [Nat.pow_succ] at h; omega)
      simp only [List.length_cons, List.length_nil]; omega
theorem dd_len1 (u : Nat) : 1 ≤ (dd u).length := by
  have := dd_ne u
  cases h : dd u with
  | nil => exact absurd h this
  | cons _ _ => simp
theorem dd_len3 {u : Nat} (h : u < 256) : (dd u).length ≤ 3 := dd_len10 2 (by omega)
theorem dd_len2 {u : Nat} (h : u ≤ 32) : (dd u).length ≤ 2 := dd_len10 1 (by omega)
/-! Numerals read back. -/
theorem parse_app (l r : List UInt8) : ∀ acc a, Lib.parseUint10 acc l = .ok a → Lib.parseUint10 acc (l ++ r) = Lib.parseUint10 a r := by
  induction l with
  | nil => intro acc a h; injection h with h; subst h; rfl
  | cons c l ih =>
    intro acc a h
    rw [List.cons_append]
    simp only [Lib.parseUint10] at h ⊢
    split at h
    · rename_i h1
      rw [if_pos h1]
      split at h
      · cases h
      · rename_i h2
        rw [if_neg h2]
        split at h
        · cases h
        · rename_i h3
          rw [if_neg h3]
          exact ih _ _ h
    · cases h
theorem parse_dd (u : Nat) : u < 18446744073709551616 → Lib.parseUint10 0 (dd u) = .ok u := by
  refine dd_ind (fun u l => u < 18446744073709551616 → Lib.parseUint10 0 l = .ok u) ?_ ?_ u
  · intro u hu _
    simp only [Lib.parseUint10, digit_nat hu]
    rw [if_pos (by omega), if_neg (by omega), if_neg (by omega)]
    congr 1; omega
  · intro u hu ih hlt
    rw [parse_app _ _ _ _ (ih (by omega))]
    simp only [Lib.parseUint10, digit_nat (show u % 10 < 10 by omega)]
    rw [if_pos (by omega), if_neg (by omega), if_neg (by omega)]
    congr 1; omega
theorem atoi_dd {u : Nat} (h : u < 9223372036854775808) : Lib.atoiAll (dd u) = .ok (u : Int) := by
  cases hl : dd u with
  | nil => exact absurd hl (dd_ne u)
  | cons c r =>
    have hc := dd_digits u c (by rw [hl]; simp)
    have hp := parse_dd u (by omega)
    unfold Lib.atoiAll
    simp only []
    rw [if_neg (by omega), ← hl]
    unfold Lib.parseMag
    rw [if_neg (dd_ne u), hp]
    simp only []
    rw [if_neg (by omega), if_neg (by omega), if_neg (by omega)]
theorem itoa_nat (u : Nat) : Lib.itoa (u : Int) = dd u := by
  unfold Lib.itoa
  rw [if_neg (by omega)]
  simp
/-- What the code's test of a word says. -/
theorem num_iff (w : List UInt8) (most : Nat) (hm : most < 9223372036854775808) (v : Int) :
    (Lib.atoiAll w = .ok v ∧ 0 ≤ v ∧ v ≤ most ∧ Lib.itoa v = w) ↔ ∃ n : Nat, w = dd n ∧ n ≤ most ∧ v = n := by
  constructor
  · rintro ⟨_, h0, h1, h2⟩
    obtain ⟨n, rfl⟩ := Int.eq_ofNat_of_zero_le h0
    exact ⟨n, by rw [← h2, itoa_nat], by omega, rfl⟩
  · rintro ⟨n, rfl, h, rfl⟩
    exact ⟨atoi_dd (by omega), by omega, by omega, itoa_nat n⟩
/-- A word that is a number up to one. -/
def IsNum (w : List UInt8) (most n : Nat) : Prop := w = dd n ∧ n ≤ most
theorem IsNum.unique {w : List UInt8} {most n m : Nat} (h : IsNum w most n) (h2 : IsNum w most m) : n = m := dd_inj (h.1.symm.trans h2.1)
/-! Pieces. -/
def pieces (c : UInt8) : List UInt8 → List (List UInt8)
  | [] => [[]]
  | b :: l => if b = c then [] :: pieces c l else match pieces c l with | [] => [[b]] | w :: r => (b :: w) :: r
theorem pieces_cons (c b : UInt8) (l : List UInt8) : pieces c (b :: l) = if b = c then [] :: pieces c l else match pieces c l with | [] => [[b]] | w :: r => (b :: w) :: r := rfl
theorem pieces_ne (c : UInt8) (l : List UInt8) : pieces c l ≠ [] := by
  cases l with
  | nil => simp [pieces]
  | cons b l =>
    unfold pieces
    split
    · simp
    · split <;> simp
theorem pieces_none {c : UInt8} {l : List UInt8} (h : c ∉ l) : pieces c l = [l] := by
  induction l with
  | nil => rfl
  | cons b l ih =>
    rw [List.mem_cons, not_or] at h
    unfold pieces
    rw [if_neg (fun e => h.1 e.symm), ih h.2]
theorem pieces_some {c : UInt8} {l : List UInt8} (h : c ∉ l) (r : List UInt8) : pieces c (l ++ c :: r) = l :: pieces c r := by
  induction l with
  | nil => show (if c = c then _ else _) = _; rw [if_pos rfl]
  | cons b l ih =>
    rw [List.mem_cons, not_or] at h
    rw [List.cons_append, pieces_cons, if_neg (fun e => h.1 e.symm), ih h.2]
theorem idx_cases (c : UInt8) : ∀ s : List UInt8, (Lib.index s [c] = -1 ∧ c ∉ s) ∨ ∃ l r, s = l ++ c :: r ∧ c ∉ l ∧ Lib.index s [c] = (l.length : Int)
  | [] => Or.inl ⟨by simp [Lib.index], by simp⟩
  | b :: s => by
    by_cases h : b = c
    · subst h
      exact Or.inr ⟨[], s, rfl, by simp, by simp [Lib.index, List.isPrefixOf]⟩
    · have hp : ([c] : List UInt8).isPrefixOf (b :: s) = false := by simp [List.isPrefixOf, Ne.symm h]
      have hix : Lib.index (b :: s) [c] = if Lib.index s [c] == -1 then -1 else Lib.index s [c] + 1 := by rw [Lib.index, hp]; simp
      rcases idx_cases c s with ⟨h1, h2⟩ | ⟨l, r, e, hn, hi⟩
      · exact Or.inl ⟨by rw [hix, h1]; rfl, by rw [List.mem_cons, not_or]; exact ⟨fun e => h e.symm, h2⟩⟩
      · refine Or.inr ⟨b :: l, r, by rw [e]; rfl, by rw [List.mem_cons, not_or]; exact ⟨fun e => h e.symm, hn⟩, ?_⟩
        rw [hix, hi, if_neg (fun e => by have := beq_iff_eq.1 e; omega)]
        simp
theorem split_pieces (c : UInt8) : ∀ (k : Nat) (s : List UInt8), Lib.count s [c] = k → Lib.splitK [c] 0 k s = pieces c s
  | 0, s, h => by
    rw [Lib.count_one] at h
    rw [pieces_none (List.count_eq_zero.1 h)]; rfl
  | k + 1, s, h => by
    rcases idx_cases c s with ⟨h1, h2⟩ | ⟨l, r, e, hn, hi⟩
    · rw [Lib.count_one, List.count_eq_zero.2 h2] at h; omega
    · have hm : ¬ (Lib.index s [c] == -1) = true := fun e => by have := beq_iff_eq.1 e; omega
      rw [Lib.splitK, if_neg hm, hi]
      have hk : Lib.count r [c] = k := by
        rw [Lib.count_one] at h ⊢
        rw [e, List.count_append, List.count_eq_zero.2 hn, List.count_cons_self] at h
        omega
      simp only [Int.toNat_natCast, Nat.add_zero, List.length_singleton]
      rw [e, List.take_left, pieces_some hn, show l ++ c :: r = (l ++ [c]) ++ r by simp, show l.length + 1 = (l ++ [c]).length by simp, List.drop_left, split_pieces c k r hk]
/-- Pieces put together again. -/
def glue (c : UInt8) : List (List UInt8) → List UInt8
  | [] => []
  | [w] => w
  | w :: x :: r => w ++ c :: glue c (x :: r)
theorem glue_cons (c : UInt8) (w : List UInt8) (r : List (List UInt8)) (h : r ≠ []) : glue c (w :: r) = w ++ c :: glue c r := by
  cases r with
  | nil => exact absurd rfl h
  | cons x r => rfl
theorem glue_pieces (c : UInt8) (s : List UInt8) : glue c (pieces c s) = s := by
  induction s with
  | nil => rfl
  | cons b l ih =>
    unfold pieces
    split
    · rename_i h
      subst h
      rw [glue_cons b [] _ (pieces_ne b l), ih]; rfl
    · cases hp : pieces c l with
      | nil => exact absurd hp (pieces_ne c l)
      | cons w r =>
        rw [hp] at ih
        simp only []
        cases r with
        | nil =>
          have : w = l := ih
          rw [← this]; rfl
        | cons x r =>
          rw [glue_cons _ _ _ (by simp), List.cons_append, ← glue_cons _ _ _ (by simp), ih]
theorem pieces_no (c : UInt8) (s : List UInt8) : ∀ w ∈ pieces c s, c ∉ w := by
  induction s with
  | nil => intro w hw; simp [pieces] at hw; simp [hw]
  | cons b l ih =>
    intro w hw
    unfold pieces at hw
    split at hw
    · rcases List.mem_cons.1 hw with rfl | hw
      · simp
      · exact ih w hw
    · rename_i hb
      cases hp : pieces c l with
      | nil => exact absurd hp (pieces_ne c l)
      | cons x r =>
        rw [hp] at hw ih
        rcases List.mem_cons.1 hw with rfl | hw
        · rw [List.mem_cons, not_or]
          exact ⟨fun e => hb e.symm, ih x (by simp)⟩
        · exact ih w (List.mem_cons_of_mem _ hw)
theorem join_glue (c : UInt8) (l : List (List UInt8)) : Lib.join l [c] = glue c l := by
  induction l with
  | nil => rfl
  | cons w r ih =>
    cases r with
    | nil => rw [Lib.join_one]; rfl
    | cons x r =>
      rw [glue_cons _ _ _ (by simp), ← ih, Lib.join_cons, Lib.join_cons]
      simp [Lib.joinTail]
/-! Addresses. -/
/-- An address's text. -/
def dotted (a : Nat) : List UInt8 := dd (a / 16777216) ++ 46 :: (dd (a / 65536 % 256) ++ 46 :: (dd (a / 256 % 256) ++ 46 :: dd (a % 256)))
theorem dot_dd (u : Nat) : (46 : UInt8) ∉ dd u := dd_not (Or.inl (by decide))
theorem slash_dd (u : Nat) : (47 : UInt8) ∉ dd u := dd_not (Or.inl (by decide))
theorem pieces_dotted (a : Nat) : pieces 46 (dotted a) = [dd (a / 16777216), dd (a / 65536 % 256), dd (a / 256 % 256), dd (a % 256)] := by
  unfold dotted
  rw [pieces_some (dot_dd _), pieces_some (dot_dd _), pieces_some (dot_dd _), pieces_none (dot_dd _)]
theorem slash_dotted (a : Nat) : (47 : UInt8) ∉ dotted a := by
  unfold dotted
  simp only [List.mem_append, List.mem_cons, not_or]
  exact ⟨slash_dd _, by decide, slash_dd _, by decide, slash_dd _, by decide, slash_dd _⟩
theorem dotted_of {s : List UInt8} {n3 n2 n1 n0 : Nat} (h : pieces 46 s = [dd n3, dd n2, dd n1, dd n0]) (h3 : n3 ≤ 255) (h2 : n2 ≤ 255) (h1 : n1 ≤ 255) (h0 : n0 ≤ 255) : s = dotted (((n3 * 256 + n2) * 256 + n1) * 256 + n0) := by
  rw [← glue_pieces 46 s, h]
  unfold dotted
  rw [show (((n3 * 256 + n2) * 256 + n1) * 256 + n0) / 16777216 = n3 by omega, show (((n3 * 256 + n2) * 256 + n1) * 256 + n0) / 65536 % 256 = n2 by omega, show (((n3 * 256 + n2) * 256 + n1) * 256 + n0) / 256 % 256 = n1 by omega, show (((n3 * 256 + n2) * 256 + n1) * 256 + n0) % 256 = n0 by omega]
  rfl
theorem dotted_inj {a b : Nat} (h : dotted a = dotted b) : a = b := by
  have := congrArg (pieces 46) h
  rw [pieces_dotted, pieces_dotted] at this
  injection this with e3 t
  injection t with e2 t
  injection t with e1 t
  injection t with e0 _
  have e3 := dd_inj e3
  have e2 := dd_inj e2
  have e1 := dd_inj e1
  have e0 := dd_inj e0
  omega
theorem dotted_len {a : Nat} (h : a < 4294967296) : (dotted a).length ≤ 15 := by
  unfold dotted
  simp only [List.length_append, List.length_cons]
  have h3 := dd_len3 (show a / 16777216 < 256 by omega)
  have h2 := dd_len3 (show a / 65536 % 256 < 256 by omega)
  have h1 := dd_len3 (show a / 256 % 256 < 256 by omega)
  have h0 := dd_len3 (show a % 256 < 256 by omega)
  omega
/-- What an address reader answers: the address and 0, or 0 and 2. -/
def AD (s : List UInt8) (x e : Nat) : Prop := (e = 0 ∧ x < 4294967296 ∧ s = dotted x) ∨ (e = 2 ∧ x = 0 ∧ ∀ a, a < 4294967296 → s ≠ dotted a)
theorem AD.unique {s : List UInt8} {x e y f : Nat} (h : AD s x e) (h2 : AD s y f) : x = y ∧ e = f := by
  rcases h with ⟨rfl, hx, h⟩ | ⟨rfl, rfl, h⟩ <;> rcases h2 with ⟨rfl, hy, h2⟩ | ⟨rfl, rfl, h2⟩
  · exact ⟨dotted_inj (h.symm.trans h2), rfl⟩
  · exact absurd h (h2 _ hx)
  · exact absurd h2 (h _ hy)
  · exact ⟨rfl, rfl⟩
/-- May a prefix be (its length an int)? -/
def May (b : Nat) (n : Int) : Prop := 0 ≤ n ∧ n ≤ 32 ∧ b % 2 ^ (32 - n.toNat) = 0
instance (b : Nat) (n : Int) : Decidable (May b n) := by unfold May; infer_instance
/-- A prefix's text. -/
def ptext (b n : Nat) : List UInt8 := dotted b ++ 47 :: dd n
theorem pieces_ptext (b n : Nat) : pieces 47 (ptext b n) = [dotted b, dd n] := by
  unfold ptext
  rw [pieces_some (slash_dotted _), pieces_none (slash_dd _)]
theorem ptext_inj {a n b m : Nat} (h : ptext a n = ptext b m) : a = b ∧ n = m := by
  have := congrArg (pieces 47) h
  rw [pieces_ptext, pieces_ptext] at this
  injection this with e1 t
  injection t with e0 _
  exact ⟨dotted_inj e1, dd_inj e0⟩
/-- What a prefix reader answers. -/
def PD (s : List UInt8) (x n e : Nat) : Prop := (e = 0 ∧ x < 4294967296 ∧ May x n ∧ s = ptext x n) ∨ (e = 2 ∧ x = 0 ∧ n = 0 ∧ ∀ (b m : Nat), b < 4294967296 → May b m → s ≠ ptext b m)
theorem PD.unique {s : List UInt8} {x n e y m f : Nat} (h : PD s x n e) (h2 : PD s y m f) : x = y ∧ n = m ∧ e = f := by
  rcases h with ⟨rfl, hx, hm, h⟩ | ⟨rfl, rfl, rfl, h⟩ <;> rcases h2 with ⟨rfl, hy, hm2, h2⟩ | ⟨rfl, rfl, rfl, h2⟩
  · have := ptext_inj (h.symm.trans h2)
    exact ⟨this.1, this.2, rfl⟩
  · exact absurd h (h2 _ _ hx hm)
  · exact absurd h2 (h _ _ hy hm2)
  · exact ⟨rfl, rfl, rfl⟩
end Go.Proofs.YtagpkphehkfjgaaDoor.Px
