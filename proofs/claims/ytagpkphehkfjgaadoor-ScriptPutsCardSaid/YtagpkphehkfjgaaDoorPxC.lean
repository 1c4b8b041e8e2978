/- Contracts of the reference's Bit, May, Within and Cut, for every input. -/
import Derived.Test.YtagpkphehkfjgaaDoorPxB
set_option linter.unusedVariables false
set_option linter.unusedSimpArgs false
namespace Go.Proofs.YtagpkphehkfjgaaDoor.Px
open Go.RowKit Go.Proofs.YtagpkphehkfjgaaDoorW.PrintWords Go.Proofs.YtagpkphehkfjgaaDoorW.PrintLast Go.Proofs.YtagpkphehkfjgaaDoorW.PrintMore
theorem bit_calls (a i : Nat) (hi : i < 32) (w : World) : Calls Tryd.prog 33 #[.int .u32 a, .int .i64 i] w fun e w' => e = .returned (.int .u32 (bitAt a i : Nat)) ∧ w = w' := by
  go_enter Tryd.func33, Tryd.ntmps33
  go_wp2
  go_ret
  refine ⟨?_, rfl⟩
  show Ending.returned (Value.int IntKind.u32 (((a : Int) / 2 ^ (31 - i)).tmod 2)) = _
  congr 2
instance (p a i : Nat) : Decidable (Agree p a i) := by unfold Agree; infer_instance
/-- What is kept around a loop that only reads one struct. -/
def Kx (w : World) (gx b : Nat) (n : Int) (W : World) : Prop := W.heap[gx]? = some (.cells #[.int .u32 b, .int .i64 n] 24 (0, 0)) ∧ Below w.heap.size w W
set_option maxHeartbeats 1600000 in
set_option maxRecDepth 100000 in
theorem rmay_in (b n : Nat) (w : World) (hb : b < 4294967296) (hn : n ≤ 32) : Calls Tryd.prog 12 #[pv b n] w fun e w' => e = .returned (.bool (decide (b % 2 ^ (32 - n) = 0))) ∧ Below w.heap.size w w' := by
  have d0 : decide ((n : Int) < 0) = false := decide_eq_false (by omega)
  have d1 : decide (32 < (n : Int)) = false := decide_eq_false (by omega)
  have HN := Aside0.mk hn
  go_enter Tryd.func12, Tryd.ntmps12
  go_upto_region 1 with (fail)
  obtain ⟨gx, hgx⟩ : ∃ gx, w.heap.size = gx := ⟨_, rfl⟩
  rw [hgx]
  refine wp_world (Bx w gx b n) (by subst hgx; exact bx_new w b n) ?_
  clear hgx hb hn
  intro w1 HX
  have k0 := HX.c0
  have k1 := HX.c1
  have HK : Aside0 (Kx w gx b n w1) := ⟨HX⟩
  clear HX
  go_wp2
  clear k0 k1 d0 d1
  go_loopw [3] (fun v3 W => ∃ k : Nat, n ≤ k ∧ k ≤ 32 ∧ v3 = .int .i64 k ∧ Nought b n k ∧ Aside0 (Kx w gx b n W)) (fun v3 _ => 32 - (intOf v3).toNat)
  case atStart => exact ⟨n, Nat.le_refl _, HN.out, rfl, rfl, HK⟩
  case round =>
    obtain ⟨k, hk1, hk, rfl, hno, HK⟩ := hrel
    by_cases hlt : k < 32
    · have k0 := pc0 HK.out.1
      have k1 := pc1 HK.out.1
      have d0 : decide ((k : Int) < 32) = true := decide_eq_true (by omega)
      go_wp2_with fail
      refine (bit_calls b k hlt _).mono ?_
      rintro e w2 ⟨rfl, rfl⟩
      by_cases hz : bitAt b k = 0
      · rw [hz]
        go_wp2
        go_roundw
        case rel => exact ⟨k + 1, by omega, by omega, by go_num, nought_step hlt hno hz, HK⟩
        case measure => simp [intOf]; omega
      · have hq : (((bitAt b k : Nat) : Int) != 0) = true := by rw [bne_iff_ne]; omega
        have HE : Aside0 (decide (b % 2 ^ (32 - n) = 0) = false) := ⟨decide_eq_false (nought_not hlt hno hz)⟩
        have HB := Aside0.mk HK.out.2
        clear hz HK k0 k1 hno
        go_wp2
        go_ret
        exact ⟨by rw [HE.out]; rfl, HB.out⟩
    · obtain rfl : k = 32 := by omega
      have HE : Aside0 (decide (b % 2 ^ (32 - n) = 0) = true) := ⟨decide_eq_true (nought_end hno)⟩
      have HB := Aside0.mk HK.out.2
      clear hno HK
      go_wp2
      go_ret
      exact ⟨by rw [HE.out]; rfl, HB.out⟩
set_option maxHeartbeats 1600000 in
set_option maxRecDepth 100000 in
theorem rmay_out (b : Nat) (n : Int) (w : World) (hn : n < 0 ∨ 32 < n) : Calls Tryd.prog 12 #[pv b n] w fun e w' => e = .returned (.bool false) ∧ Below w.heap.size w w' := by
  by_cases h0 : n < 0
  · have d0 : decide (n < 0) = true := decide_eq_true h0
    clear hn h0
    go_enter Tryd.func12, Tryd.ntmps12
    go_upto_region 1 with (fail)
    obtain ⟨gx, hgx⟩ : ∃ gx, w.heap.size = gx := ⟨_, rfl⟩
    rw [hgx]
    refine wp_world (Bx w gx b n) (by subst hgx; exact bx_new w b n) ?_
    clear hgx
    intro w1 HX
    have k0 := HX.c0
    have k1 := HX.c1
    have HB := Aside0.mk HX.2
    clear HX
    go_wp2
    go_ret
    exact ⟨rfl, HB.out⟩
  · have d0 : decide (n < 0) = false := decide_eq_false h0
    have d1 : decide (32 < n) = true := decide_eq_true (by omega)
    clear hn h0
    go_enter Tryd.func12, Tryd.ntmps12
    go_upto_region 1 with (fail)
    obtain ⟨gx, hgx⟩ : ∃ gx, w.heap.size = gx := ⟨_, rfl⟩
    rw [hgx]
    refine wp_world (Bx w gx b n) (by subst hgx; exact bx_new w b n) ?_
    clear hgx
    intro w1 HX
    have k0 := HX.c0
    have k1 := HX.c1
    have HB := Aside0.mk HX.2
    clear HX
    go_wp2
    go_ret
    exact ⟨rfl, HB.out⟩
theorem rmay_calls (b : Nat) (n : Int) (w : World) (hb : b < 4294967296) : Calls Tryd.prog 12 #[pv b n] w fun e w' => e = .returned (.bool (decide (May b n))) ∧ Below w.heap.size w w' := by
  by_cases hn : n < 0 ∨ 32 < n
  · rw [decide_eq_false (fun h : May b n => by have := h.1; have := h.2.1; omega)]
    exact rmay_out b n w hn
  · obtain ⟨m, rfl⟩ := Int.eq_ofNat_of_zero_le (show 0 ≤ n by omega)
    have e : decide (May b m) = decide (b % 2 ^ (32 - m) = 0) := by
      apply decide_eq_decide.2
      exact ⟨fun h => by simpa using h.2.2, fun h => ⟨by omega, by omega, by simpa using h⟩⟩
    rw [e]
    exact rmay_in b m w hb (by omega)
set_option maxHeartbeats 1600000 in
set_option maxRecDepth 100000 in
theorem rwithin_in (b n a : Nat) (w : World) (hb : b < 4294967296) (ha : a < 4294967296) (hn : n ≤ 32) : Calls Tryd.prog 14 #[pv b n, .int .u32 a] w fun e w' => e = .returned (.bool (decide (Agree b a n))) ∧ Below w.heap.size w w' := by
  have HN := Aside0.mk hn
  have H0 := Aside0.mk (agree_zero hb ha)
  go_enter Tryd.func14, Tryd.ntmps14
  go_upto_region 1 with (fail)
  obtain ⟨gx, hgx⟩ : ∃ gx, w.heap.size = gx := ⟨_, rfl⟩
  rw [hgx]
  refine wp_world (Bx w gx b n) (by subst hgx; exact bx_new w b n) ?_
  clear hgx hb ha hn
  intro w1 HX
  have HK : Aside0 (Kx w gx b n w1) := ⟨HX⟩
  clear HX
  go_wp2
  go_loopw [5] (fun v5 W => ∃ k : Nat, k ≤ n ∧ v5 = .int .i64 k ∧ Agree b a k ∧ Aside0 (Kx w gx b n W)) (fun v5 _ => n - (intOf v5).toNat)
  case atStart => exact ⟨0, Nat.zero_le _, rfl, H0.out, HK⟩
  case round =>
    obtain ⟨k, hk, rfl, hag, HK⟩ := hrel
    have k0 := pc0 HK.out.1
    have k1 := pc1 HK.out.1
    by_cases hlt : k < n
    · have d0 : decide ((k : Int) < (n : Int)) = true := decide_eq_true (by omega)
      have hk32 : k < 32 := by have := HN.out; omega
      go_wp2_with fail
      refine (bit_calls b k hk32 _).mono ?_
      rintro e w2 ⟨rfl, rfl⟩
      go_wp2_with fail
      refine (bit_calls a k hk32 _).mono ?_
      rintro e w2 ⟨rfl, rfl⟩
      by_cases hz : bitAt b k = bitAt a k
      · rw [hz]
        go_wp2
        go_roundw
        case rel => exact ⟨k + 1, by omega, by go_num, agree_step hk32 hag hz, HK⟩
        case measure => simp [intOf]; omega
      · have hq : (((bitAt b k : Nat) : Int) != ((bitAt a k : Nat) : Int)) = true := by rw [bne_iff_ne]; omega
        have HE : Aside0 (decide (Agree b a n) = false) := ⟨decide_eq_false (fun h => hz (agree_bit hk32 (agree_le (show k + 1 ≤ n by omega) HN.out h)))⟩
        have HB := Aside0.mk HK.out.2
        clear hz HK k0 k1 hag
        go_wp2
        go_ret
        exact ⟨by rw [HE.out]; rfl, HB.out⟩
    · obtain rfl : k = n := by omega
      have HE : Aside0 (decide (Agree b a k) = true) := ⟨decide_eq_true hag⟩
      have HB := Aside0.mk HK.out.2
      clear hag HK
      go_wp2
      go_ret
      exact ⟨by rw [HE.out]; rfl, HB.out⟩
/-- Of a length that may be: what the reference's Within answers is what the code's does. -/
theorem rwithin_may (b : Nat) (n : Int) (a : Nat) (w : World) (hb : b < 4294967296) (ha : a < 4294967296) (hm : May b n) : Calls Tryd.prog 14 #[pv b n, .int .u32 a] w fun e w' => e = .returned (.bool (decide (Wit b n a))) ∧ Below w.heap.size w w' := by
  obtain ⟨m, rfl⟩ := Int.eq_ofNat_of_zero_le hm.1
  have e : decide (Wit b m a) = decide (Agree b a m) := by
    apply decide_eq_decide.2
    have h2 : b % 2 ^ (32 - m) = 0 := by simpa using hm.2.2
    unfold Agree
    rw [eq_comm (a := b / 2 ^ (32 - m)), ← cutK_iff h2]
    exact ⟨fun h => by simpa using h.2, fun h => ⟨hm, by simpa using h⟩⟩
  rw [e]
  exact rwithin_in b m a w hb ha (by have := hm.2.1; omega)
end Go.Proofs.YtagpkphehkfjgaaDoor.Px
