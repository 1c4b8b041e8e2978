/- Plain laws on the first bits of an address, for every address and length, without conditions but their ranges. -/
import Derived.Test.YtagpkphehkfjgaaDoorPxP
import Derived.Laws.BitsAllLaws
set_option linter.unusedVariables false
set_option linter.unusedSimpArgs false
namespace Go.Proofs.YtagpkphehkfjgaaDoor.Px
/-- The mask of the first 32 - k bits. -/
def maskK (k : Nat) : Nat := 4294967296 - 2 ^ k
theorem pow32 {k : Nat} (h : k ≤ 32) : 2 ^ k ≤ 4294967296 := Nat.pow_le_pow_right (n := 2) (by decide) h
theorem maskK_lt {k : Nat} (h : k ≤ 32) : maskK k < 4294967296 := by
  have := Nat.two_pow_pos k
  unfold maskK; omega
theorem maskK_eq {k : Nat} (h : k ≤ 32) : maskK k = (2 ^ (32 - k) - 1) * 2 ^ k := by
  have h1 : 2 ^ (32 - k) * 2 ^ k = 4294967296 := by rw [← Nat.pow_add, show 32 - k + k = 32 by omega]
  rw [Nat.sub_mul, h1]; simp [maskK]
/-- The first 32 - k bits, the others nought. -/
def cutK (a k : Nat) : Nat := a / 2 ^ k * 2 ^ k
theorem and_mask {a k : Nat} (ha : a < 4294967296) (h : k ≤ 32) : a &&& maskK k = cutK a k := by
  rw [maskK_eq h]
  unfold cutK
  apply Nat.eq_of_testBit_eq
  intro i
  rw [Nat.testBit_and, Nat.testBit_mul_two_pow, Nat.testBit_mul_two_pow, Nat.testBit_two_pow_sub_one, Nat.testBit_div_two_pow]
  by_cases hk : k ≤ i
  · simp only [hk, decide_true, Bool.true_and]
    rw [show i - k + k = i by omega]
    by_cases hi : i < 32
    · rw [decide_eq_true (by omega), Bool.and_true]
    · rw [Nat.testBit_lt_two_pow (Nat.lt_of_lt_of_le ha (Nat.pow_le_pow_right (n := 2) (i := 32) (by decide) (by omega)))]; simp
  · simp [hk]
theorem andNot_mask {a k : Nat} (h : k ≤ 32) : a &&& (4294967295 - maskK k) = a % 2 ^ k := by
  have := Nat.two_pow_pos k
  have := pow32 h
  rw [show 4294967295 - maskK k = 2 ^ k - 1 by unfold maskK; omega, Nat.and_two_pow_sub_one_eq_mod]
theorem cutK_lt {a k : Nat} (ha : a < 4294967296) : cutK a k < 4294967296 := Nat.lt_of_le_of_lt (Nat.div_mul_le_self a _) ha
theorem cutK_mod (a k : Nat) : cutK a k % 2 ^ k = 0 := Nat.mul_mod_left _ _
theorem cutK_of_mod {a k : Nat} (h : a % 2 ^ k = 0) : cutK a k = a := Nat.div_mul_cancel (Nat.dvd_of_mod_eq_zero h)
theorem cutK_cutK (a : Nat) {k m : Nat} (h : k ≤ m) : cutK (cutK a k) m = cutK a m := by
  unfold cutK
  have e : 2 ^ m = 2 ^ k * 2 ^ (m - k) := by rw [← Nat.pow_add, show k + (m - k) = m by omega]
  rw [e, ← Nat.div_div_eq_div_mul, Nat.mul_div_cancel _ (Nat.two_pow_pos k), Nat.div_div_eq_div_mul]
theorem cutK_iff {a b k : Nat} (hb : b % 2 ^ k = 0) : cutK a k = b ↔ a / 2 ^ k = b / 2 ^ k := by
  constructor
  · rintro rfl
    unfold cutK
    rw [Nat.mul_div_cancel _ (Nat.two_pow_pos k)]
  · intro h
    unfold cutK
    rw [h]
    exact cutK_of_mod hb
/-! Bit by bit. -/
/-- The bit of an address at a place, from the highest on. -/
def bitAt (a i : Nat) : Nat := a / 2 ^ (31 - i) % 2
theorem bitAt_lt (a i : Nat) : bitAt a i < 2 := Nat.mod_lt _ (by decide)
theorem div_step (a i : Nat) (h : i < 32) : a / 2 ^ (31 - i) = 2 * (a / 2 ^ (32 - i)) + bitAt a i := by
  unfold bitAt
  rw [show 32 - i = (31 - i) + 1 by omega, Nat.pow_succ, ← Nat.div_div_eq_div_mul]
  omega
theorem mod_step (a i : Nat) (h : i < 32) : a % 2 ^ (32 - i) = a % 2 ^ (31 - i) + 2 ^ (31 - i) * bitAt a i := by
  unfold bitAt
  rw [show 32 - i = (31 - i) + 1 by omega, Nat.mod_pow_succ]
theorem cut_step (a i : Nat) (h : i < 32) : cutK a (31 - i) = cutK a (32 - i) + bitAt a i * 2 ^ (31 - i) := by
  unfold cutK
  rw [div_step a i h, show 32 - i = (31 - i) + 1 by omega, Nat.pow_succ, Nat.add_mul]
  congr 1
  rw [Nat.mul_comm 2, Nat.mul_assoc, Nat.mul_comm 2]
/-- Behind i places that agree. -/
def Agree (p a i : Nat) : Prop := p / 2 ^ (32 - i) = a / 2 ^ (32 - i)
theorem agree_zero {p a : Nat} (hp : p < 4294967296) (ha : a < 4294967296) : Agree p a 0 := by
  unfold Agree
  rw [Nat.div_eq_of_lt (by simpa using hp), Nat.div_eq_of_lt (by simpa using ha)]
theorem agree_step {p a i : Nat} (hi : i < 32) (h : Agree p a i) (hb : bitAt p i = bitAt a i) : Agree p a (i + 1) := by
  unfold Agree at *
  rw [show 32 - (i + 1) = 31 - i by omega, div_step p i hi, div_step a i hi, h, hb]
theorem agree_le {p a i n : Nat} (hin : i ≤ n) (hn : n ≤ 32) (h : Agree p a n) : Agree p a i := by
  unfold Agree at *
  have e : 2 ^ (32 - i) = 2 ^ (32 - n) * 2 ^ (n - i) := by rw [← Nat.pow_add, show 32 - n + (n - i) = 32 - i by omega]
  rw [e, ← Nat.div_div_eq_div_mul, ← Nat.div_div_eq_div_mul, h]
theorem agree_bit {p a i : Nat} (hi : i < 32) (h : Agree p a (i + 1)) : bitAt p i = bitAt a i := by
  unfold Agree at h
  unfold bitAt
  rw [show 31 - i = 32 - (i + 1) by omega, h]
/-- From place n on to place i all bits are nought. -/
def Nought (b n i : Nat) : Prop := b % 2 ^ (32 - n) = b % 2 ^ (32 - i)
theorem nought_step {b n i : Nat} (hi : i < 32) (h : Nought b n i) (hb : bitAt b i = 0) : Nought b n (i + 1) := by
  unfold Nought at *
  rw [h, mod_step b i hi, hb, show 32 - (i + 1) = 31 - i by omega]; simp
theorem nought_not {b n i : Nat} (hi : i < 32) (h : Nought b n i) (hb : bitAt b i ≠ 0) : b % 2 ^ (32 - n) ≠ 0 := by
  unfold Nought at h
  rw [h, mod_step b i hi]
  have h1 : bitAt b i = 1 := by have := bitAt_lt b i; omega
  have := Nat.two_pow_pos (31 - i)
  rw [h1]; omega
theorem nought_end {b n : Nat} (h : Nought b n 32) : b % 2 ^ (32 - n) = 0 := by
  unfold Nought at h
  rw [h]; simp [Nat.mod_one]
/-! Prefixes as plain law. -/
/-- Is an address within? -/
def Wit (b : Nat) (n : Int) (a : Nat) : Prop := May b n ∧ cutK a (32 - n.toNat) = b
instance (b : Nat) (n : Int) (a : Nat) : Decidable (Wit b n a) := by unfold Wit; infer_instance
/-- Does one cover another one? -/
def Cov (b : Nat) (n : Int) (c : Nat) (m : Int) : Prop := May c m ∧ n ≤ m ∧ Wit b n c
instance (b : Nat) (n : Int) (c : Nat) (m : Int) : Decidable (Cov b n c m) := by unfold Cov; infer_instance
theorem cov_wit {b c a : Nat} {n m : Int} (h : Cov b n c m) (h2 : Wit c m a) : Wit b n a := by
  obtain ⟨hm, hle, hp, hc⟩ := h
  refine ⟨hp, ?_⟩
  rw [← hc, ← h2.2]
  exact (cutK_cutK a (by omega)).symm
theorem cov_trans {b c d : Nat} {n m o : Int} (h : Cov b n c m) (h2 : Cov c m d o) : Cov b n d o :=
  ⟨h2.1, by have := h.2.1; have := h2.2.1; omega, cov_wit h h2.2.2⟩
theorem wit_cov {b c a : Nat} {n m : Int} (h : Wit b n a) (h2 : Wit c m a) (hle : n ≤ m) : Cov b n c m := by
  refine ⟨h2.1, hle, h.1, ?_⟩
  rw [← h2.2, cutK_cutK a (by omega), h.2]
theorem cov_anti {b c : Nat} {n m : Int} (h : Cov b n c m) (h2 : Cov c m b n) : b = c ∧ n = m := by
  have e : n = m := by have := h.2.1; have := h2.2.1; omega
  subst e
  exact ⟨by rw [← h.2.2.2]; exact cutK_of_mod h.1.2.2, rfl⟩
/-- The length that an address is cut at. -/
def clampN (n : Int) : Nat := (min (max n 0) 32).toNat
theorem clampN_le (n : Int) : clampN n ≤ 32 := by unfold clampN; omega
theorem wit_cut (a : Nat) (n : Nat) (hn : n ≤ 32) : Wit (cutK a (32 - n)) n a :=
  ⟨⟨by omega, by omega, by simpa using cutK_mod a (32 - n)⟩, by simp⟩
end Go.Proofs.YtagpkphehkfjgaaDoor.Px
