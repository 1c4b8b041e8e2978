/- QueueNobody, walked: for every input. -/
import Derived.Test.YtdkobokdeofiiaaQvA
set_option linter.unusedVariables false
set_option linter.unusedSimpArgs false
namespace Go.Proofs.Ytdkobokdeofiiaa.Qu
open Go.RowKit Go.Proofs.YtdkobokdeofiiaaW.PrintWords Go.Proofs.YtdkobokdeofiiaaW.PrintLast Go.Proofs.YtdkobokdeofiiaaW.PrintMore

set_option maxHeartbeats 800000 in
set_option maxRecDepth 100000 in
theorem nobody_long (A : Option Addr) (c : Nat) (bs : List Int) (n : Int) (w : World) (h : 200 < bs.length) :
    Calls Try.prog 14 #[.slice A bs.length c, .int .u8 n] w fun e w' => e = .returned (.bool true) ∧ Below w.heap.size w w' := by
  have h1 : (200 : Int) < (bs.length : Int) := by omega
  clear h
  go_enter Try.func14, Try.ntmps14
  go_wp2_with fail
  refine (awake_calls _).mono ?_
  rintro e w1 ⟨rfl, hb⟩
  have HB := Aside0.mk hb
  clear hb
  go_wp2
  go_ret
  exact ⟨rfl, HB.out⟩

set_option maxHeartbeats 2000000 in
set_option maxRecDepth 100000 in
theorem nobody_short (A : Option Addr) (c : Nat) (bs : List Int) (n : Int) (w : World) (hC : Kd.C kB w A bs.length bs) (h1 : bs.length ≤ 200) (h0 : 0 ≤ n ∧ n ≤ 255) :
    Calls Try.prog 14 #[.slice A bs.length c, .int .u8 n] w fun e w' => e = .returned (.bool true) ∧ Below w.heap.size w w' := by
  have HC := Aside0.mk hC
  have HL := Aside0.mk h1
  have i1 : ¬ (200 : Int) < (bs.length : Int) := by omega
  obtain ⟨m, hm⟩ : ∃ m : Nat, (m : Int) = Int.tmod n 5 := ⟨(Int.tmod n 5).toNat, by rw [Int.tmod_eq_emod_of_nonneg h0.1]; omega⟩
  have hm5 : m < 5 := by rw [Int.tmod_eq_emod_of_nonneg h0.1] at hm; omega
  have HM := Aside0.mk hm
  have HM5 := Aside0.mk hm5
  clear hC h1 hm hm5
  go_enter Try.func14, Try.ntmps14
  go_wp2_with fail
  refine (new_calls w).mono ?_
  rintro e w1 ⟨g, rfl, hg, hq, hb⟩
  have H1 := Aside0.mk hq
  have HB1 := Aside0.mk hb
  clear hq hb hg
  go_wp2_with fail
  go_loopw [6] (fun v6 W => ∃ (k : Nat) (v : Value) (ok : Nat → Prop), k ≤ 32 ∧ v6 = .int .i64 k ∧ Aside0 (QL w.heap.size W g v (List.replicate k bs) ok) ∧ Aside0 (Below w.heap.size w W)) (fun i _ => 32 - (intOf i).toNat)
  case atStart => exact ⟨0, _, _, by omega, rfl, H1, HB1⟩
  case round =>
    clear H1 HB1
    obtain ⟨k, v, ok, hk, rfl, H2, HB2⟩ := hrel
    by_cases hlt : k < 32
    · have hlt' : (k : Int) < 32 := by omega
      go_wp2_with fail
      refine (put_calls w.heap.size g v (List.replicate k bs) ok A c bs _ H2.out (by simpa using hlt) (Kd.C_below HC.out HB2.out) (by have := HL.out; omega)).mono ?_
      rintro e w3 ⟨rfl, v3, hq, hkk⟩
      have H3 := Aside0.mk hq
      have HB3 := Aside0.mk (HB2.out.trans hkk.1)
      clear hq hkk H2 HB2
      go_wp2
      go_roundw
      case rel => exact ⟨k + 1, v3, _, by omega, by go_num, ⟨by rw [List.replicate_succ']; exact H3.out⟩, HB3⟩
      case measure => simp [intOf]; omega
    · obtain rfl : k = 32 := by omega
      have hn0 := h0.1
      have hn1 := h0.2
      clear h0 hlt
      rw [show ((32 : Nat) : Int) = 32 from rfl]
      go_wp2_with fail
      go_loopw [7] (fun v7 W => ∃ (j : Nat), j ≤ m ∧ v7 = .int .i64 j ∧ Aside0 (QL w.heap.size W g v (List.replicate 32 bs) ok) ∧ Aside0 (Below w.heap.size w W)) (fun i _ => m - (intOf i).toNat)
      case atStart => exact ⟨0, Nat.zero_le _, rfl, H2, HB2⟩
      case round =>
        clear H2 HB2
        obtain ⟨j, hj, rfl, H3, HB3⟩ := hrel
        by_cases hlt : j < m
        · have q1 : (j : Int) < n % 5 := by have := HM.out; rw [Int.tmod_eq_emod_of_nonneg hn0] at this; omega
          have q2 : (j : Int) < Int.tmod n 5 := by have := HM.out; omega
          have hj4 : j ≤ 4 := by have := HM5.out; omega
          go_wp2_with fail
          refine (put_full w.heap.size g v (List.replicate 32 bs) ok A bs.length c _ H3.out (by simp)).mono ?_
          rintro e w4 ⟨rfl, rfl⟩
          go_wp2_with fail
          refine (again_full w.heap.size g v (List.replicate 32 bs) ok 0 _ H3.out (by simp) (by simp)).mono ?_
          rintro e w5 ⟨rfl, rfl⟩
          go_wp2
          go_roundw
          case rel => exact ⟨j + 1, by omega, by go_num, H3, HB3⟩
          case measure => simp [intOf]; omega
        · obtain rfl : j = m := by omega
          have q1 : ¬ (j : Int) < n % 5 := by have := HM.out; rw [Int.tmod_eq_emod_of_nonneg hn0] at this; omega
          have q2 : ¬ (j : Int) < Int.tmod n 5 := by have := HM.out; omega
          go_wp2_with fail
          refine (clear_none _).mono ?_
          rintro e w4 ⟨rfl, rfl⟩
          go_wp2_with fail
          refine (take_none 0 _).mono ?_
          rintro e w5 ⟨rfl, rfl⟩
          go_wp2_with fail
          refine (all_calls w.heap.size g v _ ok _ H3.out (by simp) (by intro x hx; have := HL.out; rw [List.eq_of_mem_replicate hx]; omega)).mono ?_
          rintro e w6 ⟨u, rfl, hu, hb⟩
          obtain ⟨A5, c5, rfl⟩ := Kd.N_slice hu
          have HB4 := Aside0.mk (below_step HB3.out hb)
          have ht : (List.replicate 32 bs).length = 32 := by simp
          rw [ht]
          clear hu hb ht H3 HB3
          go_wp2_with fail
          refine (put_none (.int .i64 0) A bs.length c _).mono ?_
          rintro e w7 ⟨rfl, rfl⟩
          go_wp2_with fail
          refine (again_none 0 _).mono ?_
          rintro e w8 ⟨rfl, rfl⟩
          go_wp2_with fail
          refine (drop_none 0 _).mono ?_
          rintro e w9 ⟨rfl, rfl⟩
          go_wp2_with fail
          refine (all_none _).mono ?_
          rintro e w10 ⟨rfl, rfl⟩
          go_wp2_with fail
          refine (awake_calls _).mono ?_
          rintro e w11 ⟨rfl, hb⟩
          have HB5 := Aside0.mk (below_step HB4.out hb)
          clear hb
          go_wp2
          go_ret
          exact ⟨rfl, HB5.out⟩
theorem nobody_any (A : Option Addr) (c : Nat) (bs : List Int) (n : Int) (w : World) (hC : Kd.C kB w A bs.length bs) (h0 : 0 ≤ n ∧ n ≤ 255) :
    Calls Try.prog 14 #[.slice A bs.length c, .int .u8 n] w fun e w' => e = .returned (.bool true) ∧ Below w.heap.size w w' := by
  by_cases h : 200 < bs.length
  · exact nobody_long A c bs n w h
  · exact nobody_short A c bs n w hC (by omega) h0
end Go.Proofs.Ytdkobokdeofiiaa.Qu
