/- Contracts of queue.Take and Again, for every input. -/
import Derived.Test.YthimnnnfgangbaaQuX
set_option linter.unusedVariables false
set_option linter.unusedSimpArgs false
namespace Go.Proofs.Ythimnnnfgangbaa.Qu
open Go.RowKit Go.Proofs.YthimnnnfgangbaaW.PrintWords Go.Proofs.YthimnnnfgangbaaW.PrintLast Go.Proofs.YthimnnnfgangbaaW.PrintMore

/-- The text at a place. -/
def tx (xs : List (List Int)) (i : Nat) : List Int := xs.getD i []
theorem text_at {w : World} {A : Option Addr} {n : Nat} {xs : List (List Int)} (h : Kd.C kT w A n xs) {i : Nat} (hi : i < n) : ∃ ad A0 c0, A = some ad ∧ w.cell? (ad.add i) = some (.slice A0 (tx xs i).length c0) ∧ (tx xs i).length ≤ c0 ∧ Kd.C kB w A0 (tx xs i).length (tx xs i) := by
  obtain ⟨ad, A0, c0, e, h1, h2, h3⟩ := at_L1 h (i : Int) (by omega) (by omega)
  exact ⟨ad, A0, c0, e, h1, h2, h3⟩

set_option maxHeartbeats 400000 in
set_option maxRecDepth 100000 in
theorem take_none (i : Int) (w : World) : Calls Try.prog 16 #[.pointer none, .int .i64 i] w fun e w' => e = .returned (.tuple #[.slice none 0 0, .int .i64 6]) ∧ w' = w := by
  go_enter Try.func16, Try.ntmps16
  go_wp2_with fail
  refine (at_none i _).mono ?_
  rintro e w1 ⟨rfl, rfl⟩
  go_wp2
  go_ret2
  exact ⟨rfl, rfl⟩
set_option maxHeartbeats 400000 in
set_option maxRecDepth 100000 in
theorem take_bad (B g : Nat) (v : Value) (xs : List (List Int)) (ok : Nat → Prop) (i : Int) (w : World) (h : QL B w g v xs ok) (hi : ¬ (0 ≤ i ∧ i < xs.length)) :
    Calls Try.prog 16 #[.pointer (some ⟨g, 0, none⟩), .int .i64 i] w fun e w' => e = .returned (.tuple #[.slice none 0 0, .int .i64 3]) ∧ w' = w := by
  have H := Aside0.mk h
  have HA : Aside0 (atF xs.length i = 3) := ⟨by unfold atF; rw [if_neg hi]⟩
  clear h hi
  go_enter Try.func16, Try.ntmps16
  go_wp2_with fail
  refine (at_calls B g v xs ok i _ H.out).mono ?_
  rw [HA.out]
  rintro e w1 ⟨rfl, rfl⟩
  go_wp2
  go_ret2
  exact ⟨rfl, rfl⟩
set_option maxHeartbeats 800000 in
set_option maxRecDepth 100000 in
theorem take_calls (B g : Nat) (v : Value) (xs : List (List Int)) (ok : Nat → Prop) (i : Nat) (w : World) (h : QL B w g v xs ok) (hl : xs.length ≤ 1000) (hi : i < xs.length) :
    Calls Try.prog 16 #[.pointer (some ⟨g, 0, none⟩), .int .i64 i] w fun e w' => ∃ A c, e = .returned (.tuple #[.slice A (tx xs i).length c, .int .i64 0]) ∧ (tx xs i).length ≤ c ∧ Kd.C kB w A (tx xs i).length (tx xs i) ∧ ∃ v', QL B w' g v' (xs.eraseIdx i) (fun k => ok k ∨ w.heap.size ≤ k) ∧ Kq B w w' g v v' := by
  have H := Aside0.mk h
  have HA : Aside0 (atF xs.length i = 0) := ⟨by unfold atF; rw [if_pos (by omega)]⟩
  obtain ⟨A, c, rfl, hcap, hC⟩ := h.v
  obtain ⟨ad, A0, c0, rfl, t0, t1, t2⟩ := text_at hC hi
  have p0 := blk_cell h.1 0
  simp at p0
  have i1 : (i : Int) < (xs.length : Int) := by omega
  have HLs := Aside0.mk hl
  have HT := Aside0.mk t2
  have HT1 := Aside0.mk t1
  have HI := Aside0.mk hi
  clear h hC hl t1 t2 hi
  go_enter Try.func16, Try.ntmps16
  go_wp2_with fail
  refine (at_calls B g _ xs ok i _ H.out).mono ?_
  rw [HA.out]
  rintro e w1 ⟨rfl, rfl⟩
  go_wp2_with fail
  refine (drop_calls B g _ xs ok i _ H.out HLs.out HI.out).mono ?_
  rintro e w2 ⟨rfl, v', hq, hk⟩
  have HQ := Aside0.mk hq
  have HK := Aside0.mk hk
  clear hq hk t0 p0
  go_wp2
  go_ret2
  exact ⟨A0, c0, rfl, HT1.out, HT.out, v', HQ.out, HK.out⟩
end Go.Proofs.Ythimnnnfgangbaa.Qu
