/- Contracts of the reference's functions on numbers, in the tally's terms: for every input. -/
import Derived.Test.YthimnnnfgangbaaDoorTsD
set_option linter.unusedVariables false
set_option linter.unusedSimpArgs false
namespace Go.Proofs.YthimnnnfgangbaaDoor.Ts
open Go.RowKit Go.Proofs.YthimnnnfgangbaaDoorW.PrintWords Go.Proofs.YthimnnnfgangbaaDoorW.PrintLast Go.Proofs.YthimnnnfgangbaaDoorW.PrintMore Go.Proofs.YthimnnnfgangbaaDoor.Qr
/-! The reference's addition. -/
set_option maxHeartbeats 1600000 in
set_option maxRecDepth 100000 in
theorem radd_int (a b : Int) (r : Int) (w : World) (a0 : 0 ≤ a) (b0 : 0 ≤ b) (ha : a < 18446744073709551616) (hb : b < 18446744073709551616) (hr : Aside0 ((if 18446744073709551616 ≤ a + b then 18446744073709551615 else a + b) = r)) : Calls Tryd.prog 77 #[.int .u64 a, .int .u64 b] w fun e w' => e = .returned (.int .u64 r) ∧ w = w' := by
  obtain ⟨a1, ha1⟩ : ∃ x, a / 4294967296 = x := ⟨_, rfl⟩
  obtain ⟨a2, ha2⟩ : ∃ x, a % 4294967296 = x := ⟨_, rfl⟩
  obtain ⟨b1, hb1⟩ : ∃ x, b / 4294967296 = x := ⟨_, rfl⟩
  obtain ⟨b2, hb2⟩ : ∃ x, b % 4294967296 = x := ⟨_, rfl⟩
  obtain ⟨h, hh⟩ : ∃ h, (a2 + b2) / 4294967296 = h := ⟨_, rfl⟩
  obtain ⟨s, hs⟩ : ∃ r, (a2 + b2) % 4294967296 = r := ⟨_, rfl⟩
  obtain ⟨z, hz⟩ : ∃ z, a1 + b1 + h = z := ⟨_, rfl⟩
  have HEQ : Aside0 ((if 4294967296 ≤ z then 18446744073709551615 else z * 4294967296 + s) = r) := ⟨by
    rw [← hr.out]
    split <;> split <;> omega⟩
  have q1 : a1 < 4294967296 := by omega
  have q2 : a2 < 4294967296 := by omega
  have q3 : b1 < 4294967296 := by omega
  have q4 : b2 < 4294967296 := by omega
  have p1 : 0 ≤ a1 := by omega
  have p2 : 0 ≤ a2 := by omega
  have p3 : 0 ≤ b1 := by omega
  have p4 : 0 ≤ b2 := by omega
  have q5 : h ≤ 1 := by omega
  have p5 : 0 ≤ h := by omega
  have q6 : s < 4294967296 := by omega
  have p6 : 0 ≤ s := by omega
  have p7 : 0 ≤ z := by omega
  have E1 := Aside0.mk ha1
  have E2 := Aside0.mk ha2
  have E3 := Aside0.mk hb1
  have E4 := Aside0.mk hb2
  have E5 := Aside0.mk hh
  have E6 := Aside0.mk hs
  have E7 := Aside0.mk hz
  clear ha1 ha2 hb1 hb2 hh hs hz hr
  go_enter Tryd.func77, Tryd.ntmps77
  go_upto_region 2 with (fail)
  rw [E2.out, E4.out]
  go_upto_region 3 with (fail)
  rw [E1.out, E3.out, E5.out, E7.out]
  by_cases hc : 4294967296 ≤ z
  · have HE : Aside0 (18446744073709551615 = r) := ⟨by have := HEQ.out; rw [if_pos hc] at this; exact this⟩
    clear HEQ
    go_wp2
    go_ret
    exact ⟨by rw [← HE.out]; rfl, rfl⟩
  · have HE : Aside0 (z * 4294967296 + s = r) := ⟨by have := HEQ.out; rw [if_neg hc] at this; exact this⟩
    clear HEQ
    go_wp2
    go_ret
    exact ⟨by rw [← HE.out, ← E6.out]; rfl, rfl⟩
theorem radd_calls (a b : Nat) (ha : a < 18446744073709551616) (hb : b < 18446744073709551616) (w : World) : Calls Tryd.prog 77 #[.int .u64 a, .int .u64 b] w fun e w' => e = .returned (.int .u64 (plus a b)) ∧ w = w' :=
  radd_int a b (plus a b : Nat) w (by omega) (by omega) (by omega) (by omega) ⟨by unfold plus; split <;> split <;> omega⟩
/-! The step of a number. -/
theorem bl_zero : bl 0 = 0 := by decide
theorem bl_half {x : Nat} (h0 : x ≠ 0) (h : W64 x) : bl x = 1 + bl (x / 2) := Lib.bitLen_half x h0 h
set_option maxHeartbeats 1600000 in
theorem rof_calls (n : Nat) (hn : W64 n) (w : World) : Calls Tryd.prog 78 #[.int .u64 n] w fun e w' => e = .returned (.int .i64 (bl n)) ∧ w = w' := by
  have HN := Aside0.mk hn
  clear hn
  go_enter Tryd.func78, Tryd.ntmps78
  go_wp2_with fail
  go_loop [0, 3] (fun v0 v3 => ∃ x k : Nat, v0 = .int .u64 x ∧ v3 = .int .i64 k ∧ Aside0 (W64 x) ∧ Aside0 (k + bl x = bl n)) (fun v0 _ => (intOf v0).toNat)
  case atStart => exact ⟨n, 0, rfl, rfl, HN, ⟨by omega⟩⟩
  case round =>
    obtain ⟨x, k, rfl, rfl, HX, HK⟩ := hrel
    by_cases h0 : x = 0
    · have HR : Aside0 (bl n = k) := ⟨by have := HK.out; rw [h0, bl_zero] at this; omega⟩
      have b0 : ¬ (0 : Int) < (x : Int) := by omega
      clear HK h0
      go_wp2
      go_ret
      exact ⟨by rw [HR.out]; rfl, rfl⟩
    · have b0 : (0 : Int) < (x : Int) := by omega
      have hx5 : (x : Int) ≤ 18446744073709551615 := by have := HX.out; unfold W64 at this; omega
      have hbl : (k : Int) ≤ 1000 := by have := HK.out; have := bl_lt HN.out; omega
      have HK2 : Aside0 (k + 1 + bl (x / 2) = bl n) := ⟨by have := HK.out; rw [bl_half h0 HX.out] at this; omega⟩
      have HX2 : Aside0 (W64 (x / 2)) := ⟨by have := HX.out; unfold W64 at *; omega⟩
      clear HK
      go_wp2
      go_round
      case rel => exact ⟨x / 2, k + 1, by go_num, by go_num, HX2, HK2⟩
      case measure => simp [intOf]; omega
/-! How many of a step. -/
def stepAt (t : T) (j : Int) : Nat := if 0 ≤ j ∧ j < 65 then t.st.getD j.toNat 0 else 0
theorem stepAt_add (t : T) (x : Nat) (j : Int) (hx : W64 x) (hl : t.st.length = 65) : stepAt (t.add x) j = if (bl x : Int) = j then stepAt t j + 1 else stepAt t j := by
  have hb := bl_lt hx
  by_cases h : 0 ≤ j ∧ j < 65
  · unfold stepAt
    rw [if_pos h, if_pos h]
    show (t.st.set (bl x) (t.st.getD (bl x) 0 + 1)).getD j.toNat 0 = _
    by_cases he : (bl x : Int) = j
    · rw [if_pos he, show j.toNat = bl x by omega, List.getD_eq_getElem?_getD, List.getElem?_set_self (by omega)]
      rfl
    · rw [if_neg he, List.getD_eq_getElem?_getD, List.getElem?_set_ne (by omega), ← List.getD_eq_getElem?_getD]
  · unfold stepAt
    rw [if_neg h, if_neg h, if_neg (by omega)]
theorem stepAt_le {t : T} {n : Nat} (h : Fine t n) (j : Int) : stepAt t j ≤ n := by
  unfold stepAt
  split
  · exact h.st _
  · omega
set_option maxHeartbeats 1600000 in
set_option maxRecDepth 100000 in
theorem rstep_calls (xs : List U64) (A : Option Addr) (c : Nat) (j : Int) (w : World) (hC : Kd.C kU w A xs.length xs) (hl : xs.length ≤ 100) :
    Calls Tryd.prog 63 #[.slice A xs.length c, .int .i64 j] w fun e w' => e = .returned (.int .u64 (stepAt (tal (vals xs)) j)) ∧ w = w' := by
  have HC := Aside0.mk hC
  have HL := Aside0.mk hl
  clear hC hl
  go_enter Tryd.func63, Tryd.ntmps63
  go_wp2_with fail
  go_loop [5, 6] (fun v5 v6 => ∃ k s : Nat, k ≤ xs.length ∧ v5 = .int .u64 s ∧ v6 = .int .i64 k ∧ Aside0 (stepAt (tal (vals (xs.take k))) j = s)) (fun _ v6 => xs.length - (intOf v6).toNat)
  case atStart => exact ⟨0, 0, Nat.zero_le _, rfl, rfl, ⟨by
    show stepAt t0 j = 0
    have := stepAt_le fine_t0 j
    omega⟩⟩
  case round =>
    obtain ⟨k, s, hk, rfl, rfl, HS⟩ := hrel
    by_cases hlt : k < xs.length
    · obtain ⟨ad, ⟨x, hx⟩, rfl, hg, p0⟩ := atU HC.out hlt
      simp only at p0
      have HX : Aside0 (W64 x) := ⟨hx⟩
      have HF := fine_tal (vals (xs.take k)) (vals_lt _)
      have HLEN : (vals (xs.take k)).length = k := by rw [vals_len, List.length_take]; omega
      have HSTEP : stepAt (tal (vals (xs.take (k + 1)))) j = if (bl x : Int) = j then s + 1 else s := by
        rw [← HS.out, ← stepAt_add _ _ _ hx HF.len, ← tal_snoc, List.take_add_one, hg]
        simp [vals]
      have hs5 : (s : Int) ≤ 1000 := by have := stepAt_le HF j; rw [HS.out] at this; have := HL.out; omega
      have HLT := Aside0.mk hlt
      have hk5 : (k : Int) ≤ 1000 := by have := HL.out; omega
      clear hg hx HF HLEN HS
      by_cases he : (bl x : Int) = j
      · rw [if_pos he] at HSTEP
        have b0 : ((bl x : Int) == j) = true := by simp [he]
        have HST := Aside0.mk HSTEP
        clear he HSTEP
        go_wp2_with fail
        refine (rof_calls x HX.out _).mono ?_
        rintro e w2 ⟨rfl, rfl⟩
        go_wp2
        go_round
        case rel => exact ⟨k + 1, s + 1, HLT.out, by go_num, by go_num, HST⟩
        case measure => have := HLT.out; simp [intOf]; omega
      · rw [if_neg he] at HSTEP
        have b0 : ((bl x : Int) == j) = false := by simp [he]
        have HST := Aside0.mk HSTEP
        clear he HSTEP
        go_wp2_with fail
        refine (rof_calls x HX.out _).mono ?_
        rintro e w2 ⟨rfl, rfl⟩
        go_wp2
        go_round
        case rel => exact ⟨k + 1, s, HLT.out, by go_num, by go_num, HST⟩
        case measure => have := HLT.out; simp [intOf]; omega
    · obtain rfl : k = xs.length := by omega
      have HR : Aside0 (stepAt (tal (vals xs)) j = s) := ⟨by have := HS.out; rw [List.take_length] at this; exact this⟩
      clear HS
      go_wp2
      go_ret
      exact ⟨by rw [HR.out]; rfl, rfl⟩
theorem take_tal {xs : List U64} {k : Nat} {x : U64} (hg : xs[k]? = some x) : tal (vals (xs.take (k + 1))) = (tal (vals (xs.take k))).add x.1 := by
  rw [← tal_snoc, List.take_add_one, hg]
  simp [vals]
set_option maxHeartbeats 1600000 in
set_option maxRecDepth 100000 in
theorem rsum_calls (xs : List U64) (A : Option Addr) (c : Nat) (w : World) (hC : Kd.C kU w A xs.length xs) (hl : xs.length ≤ 100) :
    Calls Tryd.prog 61 #[.slice A xs.length c] w fun e w' => e = .returned (.int .u64 (tal (vals xs)).s) ∧ w = w' := by
  have HC := Aside0.mk hC
  have HL := Aside0.mk hl
  clear hC hl
  go_enter Tryd.func61, Tryd.ntmps61
  go_wp2_with fail
  go_loop [3, 4] (fun v3 v4 => ∃ k s : Nat, k ≤ xs.length ∧ v3 = .int .u64 s ∧ v4 = .int .i64 k ∧ Aside0 ((tal (vals (xs.take k))).s = s)) (fun _ v4 => xs.length - (intOf v4).toNat)
  case atStart => exact ⟨0, 0, Nat.zero_le _, rfl, rfl, ⟨rfl⟩⟩
  case round =>
    obtain ⟨k, s, hk, rfl, rfl, HS⟩ := hrel
    by_cases hlt : k < xs.length
    · obtain ⟨ad, ⟨x, hx⟩, rfl, hg, p0⟩ := atU HC.out hlt
      simp only at p0
      have HX : Aside0 (W64 x) := ⟨hx⟩
      have HSS : Aside0 (W64 s) := ⟨by rw [← HS.out]; exact (fine_tal (vals (xs.take k)) (vals_lt _)).s⟩
      have HSTEP : Aside0 ((tal (vals (xs.take (k + 1)))).s = plus s x) := ⟨by rw [take_tal hg, ← HS.out]; rfl⟩
      have HLT := Aside0.mk hlt
      have hk5 : (k : Int) ≤ 1000 := by have := HL.out; omega
      clear hg hx HS
      go_wp2_with fail
      refine (radd_calls s x HSS.out HX.out _).mono ?_
      rintro e w2 ⟨rfl, rfl⟩
      go_wp2
      go_round
      case rel => exact ⟨k + 1, plus s x, HLT.out, rfl, by go_num, HSTEP⟩
      case measure => have := HLT.out; simp [intOf]; omega
    · obtain rfl : k = xs.length := by omega
      have HR : Aside0 ((tal (vals xs)).s = s) := ⟨by have := HS.out; rw [List.take_length] at this; exact this⟩
      clear HS
      go_wp2
      go_ret
      exact ⟨by rw [HR.out]; rfl, rfl⟩
/-- The least one, or the greatest one, of the first k. -/
def leastAt (b : Bool) (t : T) : Nat := if b = true then t.m else t.l
theorem addr_zero (a : Addr) : a.add 0 = a := by
  unfold Addr.add
  split <;> simp_all
theorem leastAt_first (b : Bool) (x : Nat) : leastAt b (t0.add x) = x := by
  cases b
  · show (if t0.c = 0 ∨ x < t0.l then x else t0.l) = x
    rw [if_pos (.inl rfl)]
  · show max 0 x = x
    omega
theorem leastAt_add (b : Bool) (t : T) (x : Nat) (h : t.c ≠ 0) : leastAt b (t.add x) = if (if b = true then leastAt b t < x else x < leastAt b t) then x else leastAt b t := by
  cases b
  · show (if t.c = 0 ∨ x < t.l then x else t.l) = if x < t.l then x else t.l
    by_cases h2 : x < t.l
    · rw [if_pos (.inr h2), if_pos h2]
    · rw [if_neg (by rintro (e | e); exact h e; exact h2 e), if_neg h2]
  · show max t.m x = if t.m < x then x else t.m
    split <;> omega
set_option maxHeartbeats 1600000 in
set_option maxRecDepth 100000 in
theorem rleast_calls (xs : List U64) (A : Option Addr) (c : Nat) (b : Bool) (w : World) (hC : Kd.C kU w A xs.length xs) (hl : xs.length ≤ 100) :
    Calls Tryd.prog 62 #[.slice A xs.length c, .bool b] w fun e w' => e = .returned (.int .u64 (leastAt b (tal (vals xs)))) ∧ w = w' := by
  by_cases h0 : xs.length = 0
  · obtain rfl : xs = [] := List.length_eq_zero_iff.1 h0
    have h1 : leastAt b (tal (vals [])) = 0 := by cases b <;> rfl
    rw [h1]
    clear hC hl h0 h1
    simp only [List.length_nil]
    go_enter Tryd.func62, Tryd.ntmps62
    go_wp2
    go_ret
    exact ⟨rfl, rfl⟩
  · have HC := Aside0.mk hC
    have HL := Aside0.mk hl
    obtain ⟨ad, ⟨y, hy⟩, rfl, hg0, q0⟩ := atU hC (show 0 < xs.length by omega)
    simp only at q0
    rw [addr_zero] at q0
    have HG0 := Aside0.mk hg0
    have hn0 : ¬ ((xs.length : Int) = 0) := by omega
    have hn1 : (0 : Int) < (xs.length : Int) := by omega
    have hn2 : ((xs.length : Int) == 0) = false := by rw [beq_eq_false_iff_ne]; omega
    have hn3 : 0 < xs.length := by omega
    clear hC hl h0 hg0
    go_enter Tryd.func62, Tryd.ntmps62
    go_wp2_with fail
    go_loop [5, 6] (fun v5 v6 => ∃ k s : Nat, k ≤ xs.length ∧ v5 = .int .u64 s ∧ v6 = .int .i64 k ∧ Aside0 (if k = 0 then s = y else leastAt b (tal (vals (xs.take k))) = s)) (fun _ v6 => xs.length - (intOf v6).toNat)
    case atStart => exact ⟨0, y, Nat.zero_le _, rfl, rfl, ⟨by simp⟩⟩
    case round =>
      obtain ⟨k, s, hk, rfl, rfl, HS⟩ := hrel
      by_cases hlt : k < xs.length
      · obtain ⟨ad2, ⟨x, hx⟩, had, hg, p0⟩ := atU HC.out hlt
        simp only at p0
        obtain rfl : ad = ad2 := Option.some.inj had
        have HSTEP : leastAt b (tal (vals (xs.take (k + 1)))) = if (if b = true then s < x else x < s) then x else s := by
          rw [take_tal hg]
          by_cases hk0 : k = 0
          · subst hk0
            have hs : s = y := by have := HS.out; rw [if_pos rfl] at this; exact this
            have hxy : x = y := by have := HG0.out; rw [hg] at this; injection this with this; injection this
            show leastAt b ((tal (vals (List.take 0 xs))).add x) = _
            rw [hs, hxy, List.take_zero, show vals [] = [] from rfl, show tal [] = t0 from rfl, leastAt_first]
            split
            · split <;> rfl
            · split <;> rfl
          · have hs : leastAt b (tal (vals (xs.take k))) = s := by have := HS.out; rw [if_neg hk0] at this; exact this
            rw [leastAt_add _ _ _ (by rw [(fine_tal (vals (xs.take k)) (vals_lt _)).c, vals_len, List.length_take]; omega), hs]
        have HLT := Aside0.mk hlt
        have hk5 : (k : Int) ≤ 1000 := by have := HL.out; omega
        have hkx : (k : Int) < (xs.length : Int) := by omega
        clear hg hx HS had q0
        cases b
        · simp only [Bool.false_eq_true, if_false] at HSTEP
          by_cases hc : x < s
          · rw [if_pos hc] at HSTEP
            have b1 : decide (x < s) = true := decide_eq_true hc
            have HST : Aside0 (if k + 1 = 0 then x = y else leastAt false (tal (vals (xs.take (k + 1)))) = x) := ⟨by rw [if_neg (by omega)]; exact HSTEP⟩
            clear HSTEP hc
            go_wp2
            go_round
            case rel => exact ⟨k + 1, x, HLT.out, rfl, by go_num, HST⟩
            case measure => have := HLT.out; simp [intOf]; omega
          · rw [if_neg hc] at HSTEP
            have b1 : decide (x < s) = false := decide_eq_false hc
            have HST : Aside0 (if k + 1 = 0 then s = y else leastAt false (tal (vals (xs.take (k + 1)))) = s) := ⟨by rw [if_neg (by omega)]; exact HSTEP⟩
            clear HSTEP hc
            go_wp2
            go_round
            case rel => exact ⟨k + 1, s, HLT.out, rfl, by go_num, HST⟩
            case measure => have := HLT.out; simp [intOf]; omega
        · simp only [if_true] at HSTEP
          by_cases hc : s < x
          · rw [if_pos hc] at HSTEP
            have b1 : decide (s < x) = true := decide_eq_true hc
            have HST : Aside0 (if k + 1 = 0 then x = y else leastAt true (tal (vals (xs.take (k + 1)))) = x) := ⟨by rw [if_neg (by omega)]; exact HSTEP⟩
            clear HSTEP hc
            go_wp2
            go_round
            case rel => exact ⟨k + 1, x, HLT.out, rfl, by go_num, HST⟩
            case measure => have := HLT.out; simp [intOf]; omega
          · rw [if_neg hc] at HSTEP
            have b1 : decide (s < x) = false := decide_eq_false hc
            have HST : Aside0 (if k + 1 = 0 then s = y else leastAt true (tal (vals (xs.take (k + 1)))) = s) := ⟨by rw [if_neg (by omega)]; exact HSTEP⟩
            clear HSTEP hc
            go_wp2
            go_round
            case rel => exact ⟨k + 1, s, HLT.out, rfl, by go_num, HST⟩
            case measure => have := HLT.out; simp [intOf]; omega
      · obtain rfl : k = xs.length := by omega
        have HR : Aside0 (leastAt b (tal (vals xs)) = s) := ⟨by have := HS.out; rw [List.take_length, if_neg (by omega)] at this; exact this⟩
        clear HS q0
        go_wp2
        go_ret
        exact ⟨by rw [HR.out]; rfl, rfl⟩
theorem end_step {k : Nat} : endN k = if k = 0 then endN (k - 1) else 2 * endN (k - 1) + 1 := by
  unfold endN
  split
  · rename_i h; subst h; rfl
  · rename_i h
    obtain ⟨j, rfl⟩ : ∃ j, k = j + 1 := ⟨k - 1, by omega⟩
    have : 0 < 2 ^ j := Nat.pow_pos (by omega)
    rw [Nat.add_sub_cancel, Nat.pow_succ]
    omega
theorem end_le {k : Nat} (h : k < 64) : endN k ≤ 9223372036854775807 := by
  unfold endN
  have : 2 ^ k ≤ 2 ^ 63 := Nat.pow_le_pow_right (by omega) (by omega)
  omega
set_option maxHeartbeats 1600000 in
set_option maxRecDepth 100000 in
theorem rat_calls (xs : List U64) (A : Option Addr) (c : Nat) (p : Int) (w : World) (hC : Kd.C kU w A xs.length xs) (hl : xs.length ≤ 100) :
    Calls Tryd.prog 64 #[.slice A xs.length c, .int .i64 p] w fun e w' => e = .returned (.int .u64 (atF (tal (vals xs)) p)) ∧ w = w' := by
  have HC := Aside0.mk hC
  have HL := Aside0.mk hl
  have HF := Aside0.mk (fine_tal (vals xs) (vals_lt _))
  have HLEN := Aside0.mk (vals_len xs)
  obtain ⟨q, hq⟩ : ∃ q, pN p = q := ⟨_, rfl⟩
  have hq2 : q ≤ 100 := by rw [← hq]; unfold pN; omega
  have HQQ := Aside0.mk hq
  have HQ := Aside0.mk hq2
  clear hC hl hq hq2
  obtain ⟨t, ht⟩ : ∃ t, tal (vals xs) = t := ⟨_, rfl⟩
  have HT := Aside0.mk ht
  rw [ht] at HF ⊢
  clear ht
  obtain ⟨r, hr⟩ : ∃ r, atF t p = r := ⟨_, rfl⟩
  have HR := Aside0.mk hr
  rw [hr]
  clear hr
  go_enter Tryd.func64, Tryd.ntmps64
  go_upto_if 9 with (fail)
  go_cut [1] (fun v1 wx => v1 = .int .i64 (max p 0) ∧ Aside0 (w = wx))
  case first =>
    by_cases h0 : p < 0
    · have HM : Aside0 (max p 0 = 0) := ⟨by omega⟩
      go_wp2_with fail
      go_meet
      exact ⟨by rw [HM.out], ⟨rfl⟩⟩
    · have HM : Aside0 (max p 0 = p) := ⟨by omega⟩
      go_wp2_with fail
      go_meet
      exact ⟨by rw [HM.out], ⟨rfl⟩⟩
  case rest =>
  obtain ⟨rfl, hw⟩ := hcut
  obtain rfl := hw.out
  clear hw
  obtain ⟨m, hm⟩ : ∃ m, max p 0 = m := ⟨_, rfl⟩
  have HM : Aside0 (min m 100 = (q : Int)) := ⟨by rw [← hm, ← HQQ.out]; unfold pN; omega⟩
  rw [hm]
  clear hm
  go_upto_if 11 with (fail)
  go_cut [1] (fun v1 wx => v1 = .int .i64 (q : Int) ∧ Aside0 (w = wx))
  case first =>
    by_cases h0 : 100 < m
    · have HM2 : Aside0 ((q : Int) = 100) := ⟨by have := HM.out; omega⟩
      go_wp2_with fail
      go_meet
      exact ⟨by rw [HM2.out], ⟨rfl⟩⟩
    · have HM2 : Aside0 ((q : Int) = m) := ⟨by have := HM.out; omega⟩
      go_wp2_with fail
      go_meet
      exact ⟨by rw [HM2.out], ⟨rfl⟩⟩
  case rest =>
  obtain ⟨rfl, hw⟩ := hcut
  obtain rfl := hw.out
  clear hw HM
  by_cases hn : xs.length = 0
  · have HR0 : Aside0 (0 = r) := ⟨by rw [← HR.out]; unfold atF; rw [if_pos (by rw [HF.out.c, HLEN.out, hn])]⟩
    have b0 : ¬ ((0 : Int) < (xs.length : Int)) := by omega
    have b1 : decide (0 < xs.length) = false := decide_eq_false (by omega)
    clear HR
    clear hn
    go_wp2_with fail
    go_loop [7] (fun v7 => v7 = .int .i64 0) (fun _ => 0)
    case atStart => rfl
    case round =>
      obtain rfl := hrel
      go_wp2
      go_ret
      exact ⟨by rw [← HR0.out]; rfl, rfl⟩
  · have b1 : decide (0 < xs.length) = true := decide_eq_true (by omega)
    have b0 : ((0 : Int) < (xs.length : Int)) := by omega
    have HR1 : Aside0 (atGo t.c q 0 0 t.st = r) := ⟨by rw [← HR.out, ← HQQ.out]; unfold atF; rw [if_neg (by rw [HF.out.c, HLEN.out]; exact hn)]⟩
    clear HR hn
    go_wp2_with fail
    go_loop [5, 6, 7] (fun v5 v6 v7 => ∃ k s : Nat, k ≤ 65 ∧ v5 = .int .u64 s ∧ v6 = .int .u64 (endN (k - 1)) ∧ v7 = .int .i64 k ∧ Aside0 (s ≤ k * 100) ∧ Aside0 (atGo t.c q k s (t.st.drop k) = r)) (fun _ _ v7 => 65 - (intOf v7).toNat)
    case atStart => exact ⟨0, 0, by omega, rfl, rfl, rfl, ⟨by omega⟩, HR1⟩
    case round =>
      clear HR1
      obtain ⟨k, s, hk, rfl, rfl, rfl, HS, HR⟩ := hrel
      by_cases hlt : k < 65
      · obtain ⟨x, hx⟩ : ∃ x, stepAt t k = x := ⟨_, rfl⟩
        have hx2 : t.st.getD k 0 = x := by rw [← hx]; unfold stepAt; rw [if_pos ⟨by omega, by omega⟩]; simp
        have HXX := Aside0.mk hx
        have hx5 : (x : Int) ≤ 1000 := by have := stepAt_le HF.out k; rw [hx] at this; have := HL.out; have := HLEN.out; omega
        have hs5 : (s : Int) ≤ 100000 := by have := HS.out; omega
        have hq5 : (q : Int) ≤ 100 := by have := HQ.out; omega
        have hn5 : (xs.length : Int) ≤ 100 := by have := HL.out; omega
        have hk5 : (k : Int) ≤ 64 := by omega
        have HR2 : Aside0 ((if xs.length * q ≤ (s + x) * 100 then endN k else atGo t.c q (k + 1) (s + x) (t.st.drop (k + 1))) = r) := ⟨by
          have := HR.out
          rw [atGo_step t.c q k s t.st (by rw [HF.out.len]; exact hlt), hx2, HF.out.c, HLEN.out] at this
          rw [HF.out.c, HLEN.out]
          exact this⟩
        have HS2 : Aside0 (s + x ≤ (k + 1) * 100) := ⟨by have := HS.out; have := stepAt_le HF.out k; rw [hx] at this; have := HL.out; have := HLEN.out; omega⟩
        have HLT := Aside0.mk hlt
        have HSTEPC : Aside0 (Calls Tryd.prog 63 #[.slice A xs.length c, .int .i64 k] w fun e w' => e = .returned (.int .u64 x) ∧ w = w') := ⟨by
          have := rstep_calls xs A c k w HC.out HL.out
          rw [HT.out, hx] at this
          exact this⟩
        have HE : Aside0 (endN k = if k = 0 then endN (k - 1) else 2 * endN (k - 1) + 1) := ⟨end_step⟩
        have he5 : (endN (k - 1) : Int) ≤ 9223372036854775807 := by have := end_le (k := k - 1) (by omega); omega
        obtain ⟨ee, hee⟩ : ∃ ee : Nat, endN (k - 1) = ee := ⟨_, rfl⟩
        rw [hee] at HE he5
        obtain ⟨e2, he2⟩ : ∃ ee : Nat, endN k = ee := ⟨_, rfl⟩
        have HE2 := Aside0.mk (show endN (k + 1 - 1) = e2 from he2)
        rw [he2] at HE HR2
        rw [hee]
        clear HR HS hx hx2 hee he2
        go_wp2_with fail
        refine HSTEPC.out.mono ?_
        rintro e w1 ⟨rfl, rfl⟩
        go_upto_if 27 with (fail)
        go_cut [6] (fun v6 wx => v6 = .int .u64 e2 ∧ Aside0 (w = wx))
        case first =>
          by_cases k0 : k = 0
          · have HE3 : Aside0 (e2 = ee) := ⟨by have := HE.out; rw [if_pos k0] at this; exact this⟩
            have c0 : ¬ (0 : Int) < (k : Int) := by omega
            have c1 : decide (0 < k) = false := decide_eq_false (by omega)
            clear k0 HE
            go_wp2_with fail
            go_meet
            exact ⟨by rw [HE3.out], ⟨rfl⟩⟩
          · have HE3 : Aside0 (e2 = 2 * ee + 1) := ⟨by have := HE.out; rw [if_neg k0] at this; exact this⟩
            have c0 : (0 : Int) < (k : Int) := by omega
            have c1 : decide (0 < k) = true := decide_eq_true (by omega)
            clear k0 HE
            go_wp2_with fail
            go_meet
            exact ⟨by rw [HE3.out]; go_num, ⟨rfl⟩⟩
        case rest =>
        obtain ⟨rfl, hw⟩ := hcut
        obtain rfl := hw.out
        clear hw HE he5
        have HWR : IntKind.u64.wrap ((xs.length : Int) * (q : Int)) = ((xs.length * q : Nat) : Int) := by
          rw [show (xs.length : Int) * (q : Int) = ((xs.length * q : Nat) : Int) by simp]
          exact wrapU (by have : xs.length * q ≤ 100 * 100 := Nat.mul_le_mul (by omega) (by omega); omega)
        by_cases hb : xs.length * q ≤ (s + x) * 100
        · have HRR : Aside0 (e2 = r) := ⟨by have := HR2.out; rw [if_pos hb] at this; exact this⟩
          have b3 : decide (IntKind.u64.wrap ((xs.length : Int) * (q : Int)) ≤ ((s : Int) + (x : Int)) * 100) = true := by
            rw [HWR]
            exact decide_eq_true (by have : ((xs.length * q : Nat) : Int) ≤ (((s + x) * 100 : Nat) : Int) := by omega
                                     simpa using this)
          clear hb HR2 HWR
          go_wp2
          go_ret
          exact ⟨by rw [← HRR.out]; rfl, rfl⟩
        · have HRR : Aside0 (atGo t.c q (k + 1) (s + x) (t.st.drop (k + 1)) = r) := ⟨by have := HR2.out; rw [if_neg hb] at this; exact this⟩
          have b3 : decide (IntKind.u64.wrap ((xs.length : Int) * (q : Int)) ≤ ((s : Int) + (x : Int)) * 100) = false := by
            rw [HWR]
            refine decide_eq_false (fun h => hb ?_)
            have : ((xs.length * q : Nat) : Int) ≤ (((s + x) * 100 : Nat) : Int) := by simpa using h
            omega
          clear hb HR2 HWR
          go_wp2
          go_round
          case rel => exact ⟨k + 1, s + x, by have := HLT.out; omega, by go_num, by rw [HE2.out], by go_num, HS2, HRR⟩
          case measure => have := HLT.out; simp [intOf]; omega
      · obtain rfl : k = 65 := by omega
        have HRR : Aside0 (0 = r) := ⟨by have := HR.out; rw [List.drop_of_length_le (by rw [HF.out.len]; omega)] at this; exact this⟩
        clear HR HS
        go_wp2
        go_ret
        exact ⟨by rw [← HRR.out]; rfl, rfl⟩
end Go.Proofs.YthimnnnfgangbaaDoor.Ts
