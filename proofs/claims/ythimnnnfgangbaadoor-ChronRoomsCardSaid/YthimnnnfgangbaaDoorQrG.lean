/- Contracts of the query's reference functions Long, Digits, for every input. -/
import Derived.Test.YthimnnnfgangbaaDoorQrB
import Derived.Test.YthimnnnfgangbaaDoorQrF
import Derived.Deep.RegionHeld3
set_option linter.unusedVariables false
set_option linter.unusedSimpArgs false
namespace Go.Proofs.YthimnnnfgangbaaDoor.Qr
open Go.RowKit Go.Proofs.YthimnnnfgangbaaDoorW.PrintWords Go.Proofs.YthimnnnfgangbaaDoorW.PrintLast Go.Proofs.YthimnnnfgangbaaDoorW.PrintMore

abbrev dd (u : Nat) : List UInt8 := Lib.decDigits u
theorem dd_small {u : Nat} (h : u < 10) : dd u = [UInt8.ofNat (48 + u)] := by unfold dd; rw [Lib.decDigits, dif_pos h]
theorem dd_big {u : Nat} (h : ¬ u < 10) : dd u = dd (u / 10) ++ [UInt8.ofNat (48 + u % 10)] := by unfold dd; rw [Lib.decDigits, dif_neg h]
theorem dd_len {u : Nat} (h : u < 18446744073709551616) : 1 ≤ (dd u).length ∧ (dd u).length ≤ 20 := by
  unfold dd
  rw [Lib.decDigits_length]
  by_cases h0 : u = 0
  · subst h0
    rw [Lib.nDigits_small (by omega)]
    omega
  · have h1 := Lib.numDigits_eq u (by omega) h
    have h2 : 1 ≤ Lib.nDigits u := by
      unfold Lib.nDigits
      split <;> omega
    split at h1 <;> omega
theorem digit_at {u : Nat} (h : u < 10) : (⟨#[48, 49, 50, 51, 52, 53, 54, 55, 56, 57]⟩ : ByteArray).extract u (u + 1) = ⟨#[UInt8.ofNat (48 + u)]⟩ := by
  match u, h with
  | 0, _ => rfl
  | 1, _ => rfl
  | 2, _ => rfl
  | 3, _ => rfl
  | 4, _ => rfl
  | 5, _ => rfl
  | 6, _ => rfl
  | 7, _ => rfl
  | 8, _ => rfl
  | 9, _ => rfl
  | n + 10, h => omega

/-- A digit's byte. -/
def dgt (u : Nat) : UInt8 := UInt8.ofNat (48 + u)
theorem slice_digit {u : Nat} (h : u < 10) (W : World) : (Instr.slice 9 (.string ⟨#[48, 49, 50, 51, 52, 53, 54, 55, 56, 57]⟩) (some (.int .u64 (u : Int))) (some (.int .u64 ((u : Int) + 1))) none).run Tryd.prog W = .ok (.string ⟨#[dgt u]⟩) W :=
  match u, h with
  | 0, _ => by kernel_rfl
  | 1, _ => by kernel_rfl
  | 2, _ => by kernel_rfl
  | 3, _ => by kernel_rfl
  | 4, _ => by kernel_rfl
  | 5, _ => by kernel_rfl
  | 6, _ => by kernel_rfl
  | 7, _ => by kernel_rfl
  | 8, _ => by kernel_rfl
  | 9, _ => by kernel_rfl
  | n + 10, h => by omega
theorem cat_bytes (l m : List UInt8) : (⟨l.toArray⟩ : ByteArray) ++ (⟨m.toArray⟩ : ByteArray) = ⟨(l ++ m).toArray⟩ := by
  apply ByteArray.ext
  simp [ByteArray.data_append]
/-- Two texts put together. -/
theorem run_cat (l m : List UInt8) (h : l.length + m.length ≤ 9223372036854775807) (W : World) : (binOp .add 9 (.string ⟨l.toArray⟩) (.string ⟨m.toArray⟩)).run Tryd.prog W = .ok (.string ⟨(l ++ m).toArray⟩) W := by
  have h2 : ¬ 9223372036854775807 < (⟨l.toArray⟩ : ByteArray).size + (⟨m.toArray⟩ : ByteArray).size := by
    show ¬ 9223372036854775807 < l.toArray.size + m.toArray.size
    simp
    omega
  rw [← cat_bytes]
  go_simp
theorem dd_small' {u : Nat} (h : u < 10) : dd u = [dgt u] := dd_small h
theorem dd_big' {u q r : Nat} (h : ¬ u < 10) (hq : u / 10 = q) (hr : u % 10 = r) : dd u = dd q ++ [dgt r] := by subst hq hr; exact dd_big h
set_option maxHeartbeats 1600000 in
set_option maxRecDepth 100000 in
theorem long_small (u : Nat) (h : u < 10) (w : World) : Calls Tryd.prog 42 #[.int .u64 u] w fun e w' => e = .returned (.string ⟨(dd u).toArray⟩) ∧ Below w.heap.size w w' := by
  have h1 : (u : Int) < 10 := by omega
  have hw : IntKind.u64.wrap ((u : Int) + 1) = (u : Int) + 1 := by rw [IntKind.wrap_u64]; omega
  have hs := fun W => slice_digit h W
  have HE := Aside0.mk (dd_small' h)
  clear h
  go_enter Tryd.func42, Tryd.ntmps42
  go_wp2
  go_ret
  exact ⟨by rw [HE.out]; rfl, Below.refl _ _⟩
set_option maxHeartbeats 1600000 in
set_option maxRecDepth 100000 in
theorem long_calls (n : Nat) : ∀ (u : Nat), u < n → u < 18446744073709551616 → ∀ (w : World), Calls Tryd.prog 42 #[.int .u64 u] w fun e w' => e = .returned (.string ⟨(dd u).toArray⟩) ∧ Below w.heap.size w w' := by
  induction n with
  | zero => intro u h; omega
  | succ n ih =>
    intro u hn hu w
    by_cases h : u < 10
    · exact long_small u h w
    · have h1 : ¬ (u : Int) < 10 := by omega
      obtain ⟨q, hq⟩ : ∃ q, u / 10 = q := ⟨_, rfl⟩
      obtain ⟨r, hr⟩ : ∃ r, u % 10 = r := ⟨_, rfl⟩
      have e1 : IntKind.u64.wrap ((u : Int) / 10) = (q : Int) := by rw [IntKind.wrap_u64]; omega
      have e2 : (u : Int) % 10 = (r : Int) := by omega
      have e2' : Int.tmod (u : Int) 10 = (r : Int) := by rw [Int.tmod_eq_emod_of_nonneg (by omega)]; omega
      have hr10 : r < 10 := by omega
      have e3 : IntKind.u64.wrap ((r : Int) + 1) = (r : Int) + 1 := by rw [IntKind.wrap_u64]; omega
      have hs := fun W => slice_digit hr10 W
      have HI := Aside0.mk (ih q (by omega) (by omega))
      have HE := Aside0.mk (dd_big' h hq hr)
      have HL := Aside0.mk (dd_len (show q < 18446744073709551616 by omega))
      have hlen : ¬ 9223372036854775807 < (dd q).length + 1 := by have := HL.out.2; omega
      clear h hn hu ih hq hr hr10
      go_enter Tryd.func42, Tryd.ntmps42
      go_upto_region 4 with (fail)
      go_region_held3 (fun W => Aside0 (Below w.heap.size w W))
        ((first | (with_reducible assumption) | exact ⟨below_drew (Below.refl _ _)⟩ | exact ⟨Below.refl _ _⟩))
        (first | (go_at_call 42; refine (HI.out _).mono ?_; rintro e w' ⟨rfl, hb⟩; have hS' : Aside0 (Below w.heap.size w w') := ⟨below_step (by first | exact below_drew (Below.refl _ _) | exact Below.refl _ _) hb⟩))
      all_goals
        have HB := Aside0.mk hS'.out
        clear hS'
        go_wp2
        go_ret
        exact ⟨by rw [HE.out, ← cat_bytes]; rfl, HB.out⟩
theorem long_any (u : Nat) (hu : u < 18446744073709551616) (w : World) : Calls Tryd.prog 42 #[.int .u64 u] w fun e w' => e = .returned (.string ⟨(dd u).toArray⟩) ∧ Below w.heap.size w w' := long_calls (u + 1) u (by omega) hu w
abbrev it (n : Int) : List UInt8 := Lib.itoa n
theorem it_len {n : Int} (h0 : -9223372036854775808 ≤ n) (h1 : n ≤ 9223372036854775807) : 1 ≤ (it n).length ∧ (it n).length ≤ 21 := by
  unfold it Lib.itoa
  split
  · have := dd_len (show n.natAbs < 18446744073709551616 by omega)
    unfold dd at this
    simp only [List.length_cons]
    omega
  · have := dd_len (show n.toNat < 18446744073709551616 by omega)
    unfold dd at this
    omega
set_option maxHeartbeats 1600000 in
set_option maxRecDepth 100000 in
theorem digits_calls (n : Int) (h0 : -9223372036854775808 ≤ n) (h1 : n ≤ 9223372036854775807) (w : World) : Calls Tryd.prog 41 #[.int .i64 n] w fun e w' => e = .returned (.string ⟨(it n).toArray⟩) ∧ Below w.heap.size w w' := by
  by_cases hn : n < 0
  · obtain ⟨u, hu⟩ : ∃ u : Nat, n.natAbs = u := ⟨_, rfl⟩
    have HE : Aside0 (it n = 45 :: dd u) := ⟨by unfold it Lib.itoa; rw [if_pos hn, hu]⟩
    have HU : Aside0 (u < 18446744073709551616) := ⟨by omega⟩
    have hlen : ¬ 9223372036854775807 < 1 + (dd u).length := by have := dd_len HU.out; omega
    have e1 : wrap64 (n + 1) = n + 1 := by unfold wrap64; omega
    have HX : Aside0 (-(n + 1) + 1 = (u : Int)) := ⟨by omega⟩
    clear hu e1
    go_enter Tryd.func41, Tryd.ntmps41
    go_wp2_with fail
    rw [HX.out]
    refine (long_any u HU.out _).mono ?_
    rintro e w1 ⟨rfl, hb⟩
    have HB := Aside0.mk hb
    clear hb
    go_wp2
    go_ret
    exact ⟨by rw [HE.out, show (45 : UInt8) :: dd u = [45] ++ dd u from rfl, ← cat_bytes]; rfl, HB.out⟩
  · obtain ⟨u, rfl⟩ := Int.eq_ofNat_of_zero_le (show 0 ≤ n by omega)
    have HE : Aside0 (it (u : Int) = dd u) := ⟨by unfold it Lib.itoa; rw [if_neg hn]; simp⟩
    have HU : Aside0 (u < 18446744073709551616) := ⟨by omega⟩
    have e1 : IntKind.u64.wrap (u : Int) = (u : Int) := by rw [IntKind.wrap_u64]; omega
    clear h0
    go_enter Tryd.func41, Tryd.ntmps41
    go_wp2_with fail
    refine (long_any u HU.out _).mono ?_
    rintro e w1 ⟨rfl, hb⟩
    have HB := Aside0.mk hb
    clear hb
    go_wp2
    go_ret
    exact ⟨by rw [HE.out]; rfl, HB.out⟩
end Go.Proofs.YthimnnnfgangbaaDoor.Qr
