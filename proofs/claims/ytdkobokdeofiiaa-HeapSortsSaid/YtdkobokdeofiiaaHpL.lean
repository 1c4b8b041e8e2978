/- Contracts of heap.least, and of Put on no heap, for every input. -/
import Derived.Test.YtdkobokdeofiiaaHpN
set_option linter.unusedVariables false
set_option linter.unusedSimpArgs false
namespace Go.Proofs.Ytdkobokdeofiiaa.Hp
open Go.RowKit Go.Proofs.YtdkobokdeofiiaaW.PrintWords Go.Proofs.YtdkobokdeofiiaaW.PrintLast Go.Proofs.YtdkobokdeofiiaaW.PrintMore

set_option maxHeartbeats 400000 in
set_option maxRecDepth 100000 in
theorem put_none (s : S30) (w : World) : Calls Try.prog 34 #[.pointer none, .agg #[.int .u64 s.f0, .int .i64 s.f1]] w fun e w' => e = .returned (.tuple #[]) ∧ Below w.heap.size w w' := by
  go_enter Try.func34, Try.ntmps34
  go_wp2
  refine bodyPost_ret (results_none rfl _ _ _) rfl ?_
  exact ⟨rfl, below_alloc (Below.refl _ _) _⟩

def lstF (xs : List S30) (i : Nat) : Nat → Nat
  | 0 => i
  | r + 1 => if ltb (at_ xs (2 * i + 1 + r)) (at_ xs (lstF xs i r)) = true then 2 * i + 1 + r else lstF xs i r
theorem lst_least (xs : List S30) (i r : Nat) (hr : r ≤ 2) (h1 : r = 0 ∨ 2 * i + r < xs.length) (h2 : r = 2 ∨ xs.length ≤ 2 * i + 1 + r) : lstF xs i r = leastF xs i := by
  match r, hr with
  | 0, _ =>
    have h3 : xs.length ≤ 2 * i + 1 := by omega
    unfold lstF leastF
    rw [if_neg (by omega), if_neg (by omega)]
  | 1, _ =>
    have h3 : ¬ 2 * i + 2 < xs.length := by omega
    have h4 : 2 * i + 1 < xs.length := by omega
    unfold leastF
    by_cases h : ltb (at_ xs (2 * i + 1)) (at_ xs i) = true
    · simp [lstF, h, h3, h4]
    · simp [lstF, h, h3]
  | 2, _ =>
    have h4 : 2 * i + 2 < xs.length := by omega
    have h5 : 2 * i + 1 < xs.length := by omega
    unfold leastF
    by_cases h : ltb (at_ xs (2 * i + 1)) (at_ xs i) = true
    · by_cases h' : ltb (at_ xs (2 * i + 2)) (at_ xs (2 * i + 1)) = true
      · simp [lstF, h, h', h4, h5]
      · simp [lstF, h, h', h4, h5]
    · by_cases h' : ltb (at_ xs (2 * i + 2)) (at_ xs i) = true
      · simp [lstF, h, h', h4, h5]
      · simp [lstF, h, h', h4, h5]
theorem lst_lt (xs : List S30) (i r : Nat) (h1 : r = 0 ∨ 2 * i + r < xs.length) (hi : r = 0 → i < xs.length) : lstF xs i r < xs.length := by
  induction r with
  | zero => exact hi rfl
  | succ r ih =>
    unfold lstF
    by_cases h : ltb (at_ xs (2 * i + 1 + r)) (at_ xs (lstF xs i r)) = true
    · rw [if_pos h]; omega
    · rw [if_neg h]; exact ih (by omega) (by omega)

set_option maxHeartbeats 2000000 in
set_option maxRecDepth 100000 in
theorem least_calls (B gh : Nat) (v : Value) (xs : List S30) (i : Nat) (w : World) (h : HL B w gh v xs) (hl : xs.length ≤ 400000) (hi : i ≤ xs.length) :
    Calls Try.prog 65 #[.pointer (some ⟨gh, 0, none⟩), .int .i64 i] w fun e w' => e = .returned (.int .i64 (leastF xs i)) ∧ Below w.heap.size w w' := by
  have H := Aside0.mk h
  obtain ⟨A, c, rfl⟩ := h.v
  have c0 := blk_cell h.1 0
  clear h
  simp at c0
  obtain ⟨i2, hi2⟩ : ∃ n, n = 2 * i := ⟨_, rfl⟩
  have hA : (2 * (i : Int)) = (i2 : Int) := by omega
  have hB : ((i2 : Int) + 1) = ((i2 + 1 : Nat) : Int) := by omega
  have hC : ((i2 : Int) + 2) = ((i2 + 2 : Nat) : Int) := by omega
  have w1 : wrap64 (2 * (i : Int)) = (i2 : Int) := by rw [hA]; exact wrN _ (by omega)
  have w2 : wrap64 ((i2 : Int) + 1) = ((i2 + 1 : Nat) : Int) := by rw [hB]; exact wrN _ (by omega)
  have w3 : wrap64 ((i2 : Int) + 2) = ((i2 + 2 : Nat) : Int) := by rw [hC]; exact wrN _ (by omega)
  have W12 : Aside0 (wrap64 (wrap64 (2 * (i : Int)) + 1) = ((i2 + 1 : Nat) : Int)) := ⟨by rw [w1]; exact w2⟩
  have W13 : Aside0 (wrap64 (wrap64 (2 * (i : Int)) + 2) = ((i2 + 2 : Nat) : Int)) := ⟨by rw [w1]; exact w3⟩
  have HI := Aside0.mk hi2
  have HLs := Aside0.mk hl
  have HIl := Aside0.mk hi
  clear hA hB hC hi2 hl hi w1 w2 w3
  go_enter Try.func65, Try.ntmps65
  go_wp2_with fail
  go_loopw [5, 6] (fun v5 v6 W => ∃ (k b r : Nat), v5 = .int .i64 b ∧ v6 = .int .i64 k ∧ Aside0 (k = 2 * i + 1 + r) ∧ Aside0 (r ≤ 2) ∧ Aside0 (r = 0 ∨ 2 * i + r < xs.length) ∧ Aside0 (b = lstF xs i r) ∧ Aside0 (Below w.heap.size w W)) (fun _ v6 _ => 2 * i + 4 - (intOf v6).toNat)
  case atStart => exact ⟨i2 + 1, i, 0, rfl, by exact congrArg _ W12.out, ⟨by have := HI.out; omega⟩, ⟨by decide⟩, ⟨.inl rfl⟩, ⟨rfl⟩, ⟨Below.refl _ _⟩⟩
  case round =>
    obtain ⟨k, b, r, rfl, rfl, HK, HR, HRL, HBB, HB⟩ := hrel
    have q1 := blk_cell (blk_below H.out.1 HB.out) 0
    simp at q1
    clear c0
    by_cases hr : r < 2
    · have hk2 : (k : Int) ≤ wrap64 (wrap64 (2 * (i : Int)) + 2) := by rw [W13.out]; have := HK.out; have := HI.out; omega
      by_cases hkl : k < xs.length
      · rcases SB.of_R (H.out.below HB.out).2.2 with ⟨he, _⟩ | ⟨g, cap, he, hg, hS⟩
        · rw [he] at hkl; exact absurd hkl (by simp)
        · injection he with he _ he3
          subst he he3
          have hbl : b < xs.length := by rw [HBB.out]; exact lst_lt xs i r HRL.out (fun _ => by have := HK.out; omega)
          obtain ⟨x, hx⟩ : ∃ x, at_ xs k = x := ⟨_, rfl⟩
          obtain ⟨y, hy⟩ : ∃ y, at_ xs b = y := ⟨_, rfl⟩
          have hg1 := hS.get hkl
          have hg2 := hS.get hbl
          rw [hx] at hg1
          rw [hy] at hg2
          obtain ⟨a0, a1, _, _⟩ := hg1
          obtain ⟨b0, b1, _, _⟩ := hg2
          obtain ⟨rr, hr⟩ : ∃ rr, ltb x y = rr := ⟨_, rfl⟩
          have hlf := less_f x y
          rw [hr] at hlf
          have HLF := Aside0.mk hlf
          have hstep : lstF xs i (r + 1) = if rr = true then k else b := by
            have e1 := HK.out
            have e2 := HBB.out
            show (if ltb (at_ xs (2 * i + 1 + r)) (at_ xs (lstF xs i r)) = true then _ else _) = _
            rw [← e1, ← e2, hx, hy, hr]
          have HST := Aside0.mk hstep
          clear hlf hr hx hy hg hS hstep
          go_wp2_with fail
          go_region_held3 (fun W => (W.cell? ⟨gh, 0, none⟩ = some (.slice (some ⟨g, 0, none⟩) xs.length c)) ∧ (W.cell? ⟨g, k * 2, none⟩ = some (.int .u64 x.f0) ∧ W.cell? ⟨g, k * 2 + 1, none⟩ = some (.int .i64 x.f1)) ∧ (W.cell? ⟨g, b * 2, none⟩ = some (.int .u64 y.f0) ∧ W.cell? ⟨g, b * 2 + 1, none⟩ = some (.int .i64 y.f1)) ∧ Aside0 (Below wr.heap.size wr W))
            ((first | (with_reducible assumption) | exact ⟨q1, ⟨a0, a1⟩, ⟨b0, b1⟩, ⟨below_drew (Below.refl _ _)⟩⟩ | exact ⟨q1, ⟨a0, a1⟩, ⟨b0, b1⟩, ⟨Below.refl _ _⟩⟩ | (exact keep5 (by with_reducible assumption) (below_alloc (Below.refl _ _) _))))
            (first
              | (go_at_call 19; (with_reducible refine (cost_Less.calls x.f0 x.f1 y.f0 y.f1 rr _ HLF.out).mono ?_); rintro e w' ⟨rfl, hb⟩; have hS' := keep5 (by with_reducible assumption) hb))
          have HB9 := Aside0.mk (below_step HB.out hS'.2.2.2.out)
          clear hS' a0 a1 b0 b1 q1
          have hk9 : k ≤ 1000000 := by have := HLs.out; omega
          cases rr
          · go_wp2
            go_roundw
            case rel => exact ⟨k + 1, b, r + 1, rfl, by go_num, ⟨by have := HK.out; omega⟩, ⟨by omega⟩, ⟨.inr (by have := HK.out; omega)⟩, ⟨HST.out.symm⟩, HB9⟩
            case measure => have := HK.out; simp [intOf]; omega
          · go_wp2
            go_roundw
            case rel => exact ⟨k + 1, k, r + 1, rfl, by go_num, ⟨by have := HK.out; omega⟩, ⟨by omega⟩, ⟨.inr (by have := HK.out; omega)⟩, ⟨HST.out.symm⟩, HB9⟩
            case measure => have := HK.out; simp [intOf]; omega
      · go_wp2
        go_ret
        refine ⟨?_, HB.out⟩
        rw [HBB.out, lst_least xs i r HR.out HRL.out (.inr (by have := HK.out; omega))]
        rfl
    · have hk2 : ¬ (k : Int) ≤ wrap64 (wrap64 (2 * (i : Int)) + 2) := by rw [W13.out]; have := HK.out; have := HI.out; have := HR.out; omega
      go_wp2
      go_ret
      refine ⟨?_, HB.out⟩
      rw [HBB.out, lst_least xs i r HR.out HRL.out (.inl (by have := HR.out; omega))]
      rfl
end Go.Proofs.Ytdkobokdeofiiaa.Hp
