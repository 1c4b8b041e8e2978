/- Contracts of slices.Grow of no texts, and of slices.Concat of two rows of texts, for every input. -/
import Derived.Test.YthimnnnfgangbaaQuV
set_option linter.unusedVariables false
set_option linter.unusedSimpArgs false
namespace Go.Proofs.Ythimnnnfgangbaa.Qu
open Go.RowKit Go.Proofs.YthimnnnfgangbaaW.PrintWords Go.Proofs.YthimnnnfgangbaaW.PrintLast Go.Proofs.YthimnnnfgangbaaW.PrintMore

theorem wrN (n : Nat) (h : n ≤ 1000) : wrap64 (n : Int) = (n : Int) := by unfold wrap64; omega
theorem zeroT (W : World) : Kd.FK kT W (fun _ => False) ([] : List Int) [.slice none 0 0] := Kd.FK_of_M (d := kT) (base := 0) ⟨_, rfl, Kd.R_nil _ _ _ _ _⟩

set_option maxHeartbeats 800000 in
set_option maxRecDepth 100000 in
theorem grow_calls (n : Nat) (w : World) (ok : Nat → Prop) (hf : ∀ k, w.heap.size ≤ k → ok k) (hn : n ≤ 1000) :
    Calls Try.prog 32 #[.slice none 0 0, .int .i64 n] w fun e w' => ∃ v, e = .returned v ∧ Kd.N kT 22 w' w.heap.size ok v [] ∧ Below w.heap.size w w' := by
  have HF := Aside0.mk hf
  clear hf
  have HN0 := Aside0.mk (Kd.N_nil kT 22 w w.heap.size ok)
  have w0 : wrap64 (n : Int) = (n : Int) := by unfold wrap64; omega
  rcases Nat.eq_zero_or_pos n with h0 | h0
  · subst h0
    clear w0
    go_enter Try.func32, Try.ntmps32
    go_wp2
    go_ret
    exact ⟨_, rfl, HN0.out, Below.refl _ _⟩
  · have h1 : (0 : Int) < (n : Int) := by omega
    have HN := Aside0.mk hn
    have H1 := Aside0.mk h0
    clear hn h0
    go_enter Try.func32, Try.ntmps32
    go_upto_region 5 with (fail)
    rw [w0]
    go_wp2_with (first | ((with_reducible refine gate_dst (N := 22) rfl ?_); refine Kd.N_append_zeros kT (w0 := w) w.heap.size rfl (.tmp 20) (.tmp 21) 41 3 22 (.slice none 0 0) 24 rfl Try.underlying41 Try.underlying3 info22 rfl (by decide) (by omega) (.slice none 0 0) [] [] (n : Int) ok rfl rfl (zeroT _) HF.out HN0.out (by omega) (Below.refl _ _) (Nat.le_refl _) (by have := HN.out; simp; omega) ?_; intro v1 w1 hN hb hg hat; have HN1 := Aside0.mk hN; have HB1 := Aside0.mk hb; obtain ⟨g, cap, hv, _⟩ := Kd.N_form hN (by have := H1.out; simp; omega); subst hv; have hlc : n ≤ cap := (by have := (Kd.N_reads' hN).2.1; simpa using this); clear hN hb hg hat))
    go_ret
    refine ⟨_, rfl, ?_, HB1.out⟩
    have := Kd.N_take (m := 0) HN1.out (Nat.zero_le _)
    rw [List.take_zero] at this
    exact this

set_option maxHeartbeats 1600000 in
set_option maxRecDepth 100000 in
theorem concat_calls (gb : Nat) (A1 A2 : Option Addr) (c1 c2 : Nat) (xs ys : List (List Int)) (okp ok : Nat → Prop) (w : World) (hb : w.heap[gb]? = some (.cells #[.slice A1 xs.length c1, .slice A2 ys.length c2] 41 (0, 0)))
    (h1 : Kd.F kT w okp A1 xs.length xs) (h2 : Kd.F kT w okp A2 ys.length ys) (hp : ∀ k, okp k → ok k) (hf : ∀ k, w.heap.size ≤ k → ok k) (hn : xs.length + ys.length ≤ 1000) :
    Calls Try.prog 31 #[.slice (some ⟨gb, 0, none⟩) 2 2] w fun e w' => ∃ v, e = .returned v ∧ Kd.N kT 22 w' w.heap.size ok v (xs ++ ys) ∧ Below w.heap.size w w' := by
  have HB := Aside0.mk hb
  have HF1 := Aside0.mk h1
  have HF2 := Aside0.mk h2
  have HP := Aside0.mk hp
  have HFR := Aside0.mk hf
  have HN := Aside0.mk hn
  have q0 := blk_cell hb 0
  have q1 := blk_cell hb 1
  simp at q0 q1
  obtain ⟨n1, hn1⟩ : ∃ n1, xs.length = n1 := ⟨_, rfl⟩
  obtain ⟨n2, hn2⟩ : ∃ n2, ys.length = n2 := ⟨_, rfl⟩
  rw [hn1] at q0
  rw [hn2] at q1
  have e1 : wrap64 (n1 : Int) = (n1 : Int) := by unfold wrap64; omega
  have hs : (n1 : Int) + (n2 : Int) = ((n1 + n2 : Nat) : Int) := by omega
  have hb2 : n1 + n2 ≤ 1000 := by omega
  have W2 : Aside0 (wrap64 (wrap64 (n1 : Int) + (n2 : Int)) = ((n1 + n2 : Nat) : Int)) := ⟨by rw [e1, hs]; exact wrN _ hb2⟩
  clear hb2
  have p1 : ¬ (n1 : Int) < 0 := by omega
  have N1 := Aside0.mk hn1
  have N2 := Aside0.mk hn2
  clear hb h1 h2 hp hf hn hn1 hn2 hs
  go_enter Try.func31, Try.ntmps31
  go_wp2_with fail
  refine wp_loop_rounds 3 ?_
  rw [rounds_succ]
  go_wp2_with fail
  have p3 : ¬ wrap64 (wrap64 (n1 : Int) + (n2 : Int)) < 0 := by rw [W2.out]; omega
  clear e1
  rw [rounds_succ]
  go_wp2_with fail
  rw [rounds_succ]
  go_wp2_with fail
  rw [W2.out]
  clear p3
  refine (grow_calls (n1 + n2) w ok HFR.out (by have := HN.out; have := N1.out; have := N2.out; omega)).mono ?_
  rintro e w1 ⟨v6, rfl, ho, hb⟩
  have HO6 := Aside0.mk ho
  have HB1 := Aside0.mk hb
  have q0 := blk_cell (blk_below HB.out hb) 0
  have q1 := blk_cell (blk_below HB.out hb) 1
  simp at q0 q1
  rw [N1.out] at q0
  rw [N2.out] at q1
  clear ho hb
  go_wp2_with fail
  have HG1 := Aside0.mk (Kd.F_mono (Kd.F_bound HF1.out) (ok' := fun k => okp k ∧ k < w.heap.size) (fun _ hk => hk))
  have HG2 := Aside0.mk (Kd.F_mono (Kd.F_bound HF2.out) (ok' := fun k => okp k ∧ k < w.heap.size) (fun _ hk => hk))
  refine wp_loop_rounds 3 ?_
  rw [rounds_succ]
  go_wp2_with (first | ((with_reducible refine gate_dst (N := 33) rfl ?_); refine Kd.N_append_rows kT (w0 := w) w.heap.size rfl (.tmp 31) (.tmp 32) 41 22 (.slice none 0 0) 24 rfl Try.underlying41 info22 rfl (by decide) (by omega) v6 [] xs A1 n1 c1 ok (fun k => okp k ∧ k < w.heap.size) rfl rfl HO6.out (by have := Kd.F_below HG1.out HB1.out; rw [N1.out] at this; exact this) (fun k hk => ⟨HP.out k hk.1, fun e => by have := Kd.N_base HO6.out k e.symm; have := hk.2; omega⟩) (fun k hk => HFR.out k (Nat.le_trans HB1.out.size hk)) HB1.out HB1.out.size (by have := HN.out; have := N1.out; simp; omega) ?_; intro v7 w2 hN2 hb2 hg2 hat2; rw [List.nil_append] at hN2; have HO7 := Aside0.mk hN2; have HB2 := Aside0.mk hb2; have Q1 := Aside0.mk (blk_grown (blk_below HB.out HB1.out) hg2 (Kd.N_ne HO6.out (blk_below HB.out HB1.out) (by decide))); clear hN2 hb2 hg2 hat2))
  have q1' := blk_cell Q1.out 1
  have q0' := blk_cell Q1.out 0
  simp at q0' q1'
  rw [N1.out] at q0'
  rw [N2.out] at q1'
  rw [rounds_succ]
  go_wp2_with (first | ((with_reducible refine gate_dst (N := 33) rfl ?_); refine Kd.N_append_rows kT (w0 := w) w.heap.size rfl (.tmp 31) (.tmp 32) 41 22 (.slice none 0 0) 24 rfl Try.underlying41 info22 rfl (by decide) (by omega) v7 xs ys A2 n2 c2 ok (fun k => okp k ∧ k < w.heap.size) rfl rfl HO7.out (by have := Kd.F_below HG2.out HB2.out; rw [N2.out] at this; exact this) (fun k hk => ⟨HP.out k hk.1, fun e => by have := Kd.N_base HO7.out k e.symm; have := hk.2; omega⟩) (fun k hk => HFR.out k (Nat.le_trans HB2.out.size hk)) HB2.out HB2.out.size (by have := HN.out; have := N2.out; omega) ?_; intro v8 w3 hN3 hb3 hg3 hat3; have HO8 := Aside0.mk hN3; have HB3 := Aside0.mk hb3; clear hN3 hb3 hg3 hat3))
  rw [rounds_succ]
  go_wp2
  go_ret
  exact ⟨_, rfl, HO8.out, HB3.out⟩
end Go.Proofs.Ythimnnnfgangbaa.Qu
