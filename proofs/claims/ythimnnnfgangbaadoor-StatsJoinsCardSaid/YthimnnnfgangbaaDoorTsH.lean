/- Contract of the reference's Text of numbers: for every input. -/
import Derived.Test.YthimnnnfgangbaaDoorTsG
set_option linter.unusedVariables false
set_option linter.unusedSimpArgs false
namespace Go.Proofs.YthimnnnfgangbaaDoor.Ts
open Go.RowKit Go.Proofs.YthimnnnfgangbaaDoorW.PrintWords Go.Proofs.YthimnnnfgangbaaDoorW.PrintLast Go.Proofs.YthimnnnfgangbaaDoorW.PrintMore Go.Proofs.YthimnnnfgangbaaDoor.Qr
theorem join_three (ws : List (List UInt8)) (h : ws ≠ []) (a b c : List UInt8) : Lib.join (ws ++ [a, b, c]) [32] = Lib.join ws [32] ++ 32 :: a ++ 32 :: b ++ 32 :: c := by
  cases ws with
  | nil => exact absurd rfl h
  | cons x r =>
    rw [List.cons_append, Lib.join_cons, Lib.join_cons]
    simp [Lib.joinTail]
theorem join_base (t : T) : Lib.join (baseW t) [32] = [99, 111, 117, 110, 116, 32] ++ dd t.c ++ [32, 115, 117, 109, 32] ++ dd t.s ++ [32, 108, 101, 97, 115, 116, 32] ++ dd t.l ++ [32, 109, 111, 115, 116, 32] ++ dd t.m := by
  unfold baseW
  rw [Lib.join_cons]
  simp [Lib.joinTail]
set_option maxHeartbeats 6400000 in
set_option maxRecDepth 100000 in
theorem rtext_calls (xs : List U64) (A : Option Addr) (c : Nat) (w : World) (hC : Kd.C kU w A xs.length xs) (hl : xs.length ≤ 100) :
    Calls Tryd.prog 66 #[.slice A xs.length c] w fun e w' => e = .returned (.string ⟨(textT (tal (vals xs))).toArray⟩) ∧ Below w.heap.size w w' := by
  have HC := Aside0.mk hC
  have HL := Aside0.mk hl
  have hF := fine_tal (vals xs) (vals_lt _)
  rw [vals_len] at hF
  obtain ⟨t, ht⟩ : ∃ t, tal (vals xs) = t := ⟨_, rfl⟩
  have HT := Aside0.mk ht
  rw [ht] at hF ⊢
  have HF := Aside0.mk hF
  have l1 := it_len (n := (xs.length : Int)) (by omega) (by omega)
  have l2 := dd_len hF.s
  have l3 := dd_len hF.l
  have l4 := dd_len hF.m
  have h1 : ¬ 9223372036854775807 < 6 + (it (xs.length : Int)).length := by omega
  have h2 : ¬ 9223372036854775807 < 6 + (it (xs.length : Int)).length + 5 := by omega
  have h3 : ¬ 9223372036854775807 < 6 + (it (xs.length : Int)).length + 5 + (dd t.s).length := by omega
  have h4 : ¬ 9223372036854775807 < 6 + (it (xs.length : Int)).length + 5 + (dd t.s).length + 7 := by omega
  have h5 : ¬ 9223372036854775807 < 6 + (it (xs.length : Int)).length + 5 + (dd t.s).length + 7 + (dd t.l).length := by omega
  have h6 : ¬ 9223372036854775807 < 6 + (it (xs.length : Int)).length + 5 + (dd t.s).length + 7 + (dd t.l).length + 6 := by omega
  have h7 : ¬ 9223372036854775807 < 6 + (it (xs.length : Int)).length + 5 + (dd t.s).length + 7 + (dd t.l).length + 6 + (dd t.m).length := by omega
  clear hC hl ht hF l1 l2 l3 l4
  go_enter Tryd.func66, Tryd.ntmps66
  go_wp2_with fail
  refine (digits_calls (xs.length : Int) (by have := HL.out; omega) (by have := HL.out; omega) w).mono ?_
  rintro e w1 ⟨rfl, hb⟩
  have HB1 := Aside0.mk hb
  clear hb
  go_wp2_with fail
  refine (rsum_calls xs A c w1 (Kd.C_below HC.out HB1.out) HL.out).mono ?_
  rintro e w1' ⟨rfl, rfl⟩
  rw [HT.out]
  go_wp2_with fail
  refine (long_any t.s HF.out.s w1).mono ?_
  rintro e w2 ⟨rfl, hb⟩
  have HB2 := Aside0.mk (below_step HB1.out hb)
  clear hb HB1
  go_wp2_with fail
  refine (rleast_calls xs A c false w2 (Kd.C_below HC.out HB2.out) HL.out).mono ?_
  rintro e w2' ⟨rfl, rfl⟩
  rw [HT.out, show leastAt false t = t.l from rfl]
  go_wp2_with fail
  refine (long_any t.l HF.out.l w2).mono ?_
  rintro e w3 ⟨rfl, hb⟩
  have HB3 := Aside0.mk (below_step HB2.out hb)
  clear hb HB2
  go_wp2_with fail
  refine (rleast_calls xs A c true w3 (Kd.C_below HC.out HB3.out) HL.out).mono ?_
  rintro e w3' ⟨rfl, rfl⟩
  rw [HT.out, show leastAt true t = t.m from rfl]
  go_wp2_with fail
  refine (long_any t.m HF.out.m w3).mono ?_
  rintro e w4 ⟨rfl, hb⟩
  have HB4 := Aside0.mk (below_step HB3.out hb)
  clear hb HB3
  go_upto_region 2 with (fail)
  clear h1 h2 h3 h4 h5 h6 h7
  have HS : Aside0 ((⟨#[99, 111, 117, 110, 116, 32]⟩ : ByteArray) ++ ⟨(it (xs.length : Int)).toArray⟩ ++ ⟨#[32, 115, 117, 109, 32]⟩ ++ ⟨(dd t.s).toArray⟩ ++ ⟨#[32, 108, 101, 97, 115, 116, 32]⟩ ++ ⟨(dd t.l).toArray⟩ ++ ⟨#[32, 109, 111, 115, 116, 32]⟩ ++ ⟨(dd t.m).toArray⟩ = ⟨(Lib.join (wordsT t 0) [32]).toArray⟩) := ⟨by
    show _ = (⟨(Lib.join (baseW t) [32]).toArray⟩ : ByteArray)
    rw [join_base, HF.out.c, show dd xs.length = it (xs.length : Int) from (Lib.itoa_nonneg xs.length).symm]
    simp only [cat_bytes]⟩
  rw [HS.out]
  clear HS
  go_wp2_with fail
  go_loopw [3, 4] (fun v3 v4 W => ∃ k : Nat, k ≤ 65 ∧ v4 = .int .i64 k ∧ v3 = .string ⟨(Lib.join (wordsT t k) [32]).toArray⟩ ∧ Aside0 (Below w.heap.size w W)) (fun _ v4 _ => 65 - (intOf v4).toNat)
  case atStart => exact ⟨0, by omega, rfl, rfl, HB4⟩
  case round =>
    clear HB4
    obtain ⟨k, hk, rfl, rfl, HB⟩ := hrel
    by_cases hlt : k < 65
    · have HLT := Aside0.mk hlt
      have hk5 : (k : Int) ≤ 64 := by omega
      obtain ⟨x, hx⟩ : ∃ x, stepAt t k = x := ⟨_, rfl⟩
      have hx1 : (x : Int) ≤ 1000 := by have := stepAt_le HF.out k; rw [hx] at this; have := HL.out; omega
      have HX := Aside0.mk hx
      have HST : Aside0 (∀ W, Below w.heap.size w W → Calls Tryd.prog 63 #[.slice A xs.length c, .int .i64 k] W fun e w' => e = .returned (.int .u64 x) ∧ W = w') := ⟨fun W hW => by
        have := rstep_calls xs A c k W (Kd.C_below HC.out hW) HL.out
        rw [HT.out, hx] at this
        exact this⟩
      obtain ⟨L, hL⟩ : ∃ L, Lib.join (wordsT t k) [32] = L := ⟨_, rfl⟩
      have hLl : L.length ≤ 22 * 300 := by
        rw [← hL]
        have := join_short (wordsT t k) 21 (words_short HF.out HL.out k (by omega))
        have := (words_len t k).2
        omega
      have HLX := Aside0.mk hL
      have HLL := Aside0.mk hLl
      rw [hL]
      clear hx hL hLl
      go_wp2_with fail
      refine (HST.out wr HB.out).mono ?_
      rintro e w5 ⟨rfl, rfl⟩
      by_cases h0 : 0 < x
      · have h1 : (0 : Int) < (x : Int) := by omega
        have l1 := it_len (n := (k : Int)) (by omega) (by omega)
        have l2 := dd_len (u := x) (by omega)
        have q1 : ¬ 9223372036854775807 < L.length + 6 := by have := HLL.out; omega
        have q2 : ¬ 9223372036854775807 < L.length + 6 + (it (k : Int)).length := by have := HLL.out; omega
        have q3 : ¬ 9223372036854775807 < L.length + 6 + (it (k : Int)).length + 1 := by have := HLL.out; omega
        have q4 : ¬ 9223372036854775807 < L.length + 6 + (it (k : Int)).length + 1 + (dd x).length := by have := HLL.out; omega
        have HW : Aside0 ((⟨L.toArray⟩ : ByteArray) ++ ⟨#[32, 115, 116, 101, 112, 32]⟩ ++ ⟨(it (k : Int)).toArray⟩ ++ ⟨#[32]⟩ ++ ⟨(dd x).toArray⟩ = ⟨(Lib.join (wordsT t (k + 1)) [32]).toArray⟩) := ⟨by
          show _ = (⟨(Lib.join (wordsT t k ++ stepW t k) [32]).toArray⟩ : ByteArray)
          unfold stepW
          rw [HX.out, if_pos h0, join_three _ (by intro e; have := (words_len t k).1; rw [e] at this; simp at this), HLX.out]
          simp only [cat_bytes]
          simp⟩
        clear h0 l1 l2
        go_wp2_with fail
        refine (digits_calls (k : Int) (by omega) (by omega) _).mono ?_
        rintro e w6 ⟨rfl, hb⟩
        have HB6 := Aside0.mk (below_step HB.out hb)
        clear hb HB
        go_wp2_with fail
        refine (HST.out w6 HB6.out).mono ?_
        rintro e w7 ⟨rfl, rfl⟩
        go_wp2_with fail
        refine (long_any x (by omega) _).mono ?_
        rintro e w8 ⟨rfl, hb⟩
        have HB8 := Aside0.mk (below_step HB6.out hb)
        clear hb HB6
        go_wp2
        go_roundw
        case rel => exact ⟨k + 1, by have := HLT.out; omega, by go_num, by rw [← HW.out], HB8⟩
        case measure => have := HLT.out; simp [intOf]; omega
      · have h1 : ¬ (0 : Int) < (x : Int) := by omega
        have h2 : decide (0 < x) = false := decide_eq_false h0
        have HW : Aside0 (L = Lib.join (wordsT t (k + 1)) [32]) := ⟨by
          show _ = Lib.join (wordsT t k ++ stepW t k) [32]
          unfold stepW
          rw [HX.out, if_neg h0, List.append_nil, HLX.out]⟩
        clear h0
        go_wp2
        go_roundw
        case rel => exact ⟨k + 1, by have := HLT.out; omega, by go_num, by rw [← HW.out], HB⟩
        case measure => have := HLT.out; simp [intOf]; omega
    · obtain rfl : k = 65 := by omega
      go_wp2
      go_ret
      exact ⟨rfl, HB.out⟩
end Go.Proofs.YthimnnnfgangbaaDoor.Ts
