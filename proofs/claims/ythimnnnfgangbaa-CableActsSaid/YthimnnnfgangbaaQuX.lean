/- Contracts of queue.Drop, for every input. -/
import Derived.Test.YthimnnnfgangbaaQuW
set_option linter.unusedVariables false
set_option linter.unusedSimpArgs false
namespace Go.Proofs.Ythimnnnfgangbaa.Qu
open Go.RowKit Go.Proofs.YthimnnnfgangbaaW.PrintWords Go.Proofs.YthimnnnfgangbaaW.PrintLast Go.Proofs.YthimnnnfgangbaaW.PrintMore

theorem concat_n (gb n1 n2 : Nat) (A1 A2 : Option Addr) (c1 c2 : Nat) (xs ys : List (List Int)) (okp ok : Nat → Prop) (w : World) (hn1 : xs.length = n1) (hn2 : ys.length = n2) (hb : w.heap[gb]? = some (.cells #[.slice A1 n1 c1, .slice A2 n2 c2] 41 (0, 0)))
    (h1 : Kd.F kT w okp A1 xs.length xs) (h2 : Kd.F kT w okp A2 ys.length ys) (hp : ∀ k, okp k → ok k) (hf : ∀ k, w.heap.size ≤ k → ok k) (hn : xs.length + ys.length ≤ 1000) :
    Calls Try.prog 31 #[.slice (some ⟨gb, 0, none⟩) 2 2] w fun e w' => ∃ v, e = .returned v ∧ Kd.N kT 22 w' w.heap.size ok v (xs ++ ys) ∧ Below w.heap.size w w' := by
  subst hn1 hn2
  exact concat_calls gb A1 A2 c1 c2 xs ys okp ok w hb h1 h2 hp hf hn

set_option maxHeartbeats 400000 in
set_option maxRecDepth 100000 in
theorem drop_none (i : Int) (w : World) : Calls Try.prog 29 #[.pointer none, .int .i64 i] w fun e w' => e = .returned (.int .i64 6) ∧ w' = w := by
  go_enter Try.func29, Try.ntmps29
  go_wp2_with fail
  refine (at_none i _).mono ?_
  rintro e w1 ⟨rfl, rfl⟩
  go_wp2
  go_ret
  exact ⟨rfl, rfl⟩
set_option maxHeartbeats 400000 in
set_option maxRecDepth 100000 in
theorem drop_bad (B g : Nat) (v : Value) (xs : List (List Int)) (ok : Nat → Prop) (i : Int) (w : World) (h : QL B w g v xs ok) (hi : ¬ (0 ≤ i ∧ i < xs.length)) :
    Calls Try.prog 29 #[.pointer (some ⟨g, 0, none⟩), .int .i64 i] w fun e w' => e = .returned (.int .i64 3) ∧ w' = w := by
  have H := Aside0.mk h
  have HA : Aside0 (atF xs.length i = 3) := ⟨by unfold atF; rw [if_neg hi]⟩
  clear h hi
  go_enter Try.func29, Try.ntmps29
  go_wp2_with fail
  refine (at_calls B g v xs ok i _ H.out).mono ?_
  rw [HA.out]
  rintro e w1 ⟨rfl, rfl⟩
  go_wp2
  go_ret
  exact ⟨rfl, rfl⟩
set_option maxHeartbeats 2000000 in
set_option maxRecDepth 100000 in
theorem drop_calls (B g : Nat) (v : Value) (xs : List (List Int)) (ok : Nat → Prop) (i : Nat) (w : World) (h : QL B w g v xs ok) (hl : xs.length ≤ 1000) (hi : i < xs.length) :
    Calls Try.prog 29 #[.pointer (some ⟨g, 0, none⟩), .int .i64 i] w fun e w' => e = .returned (.int .i64 0) ∧ ∃ v', QL B w' g v' (xs.eraseIdx i) (fun k => ok k ∨ w.heap.size ≤ k) ∧ Kq B w w' g v v' := by
  have H := Aside0.mk h
  have HA : Aside0 (atF xs.length i = 0) := ⟨by unfold atF; rw [if_pos (by omega)]⟩
  obtain ⟨gl, cap, rfl, _⟩ := Kd.N_form h.2.2.1 (by omega)
  have hcap : xs.length ≤ cap := (Kd.N_reads' h.2.2.1).2.1
  have c0 := blk_cell h.1 0
  have f0 := blk_frozen h.1 0
  simp at c0
  have w1 : wrap64 ((i : Int) + 1) = ((i + 1 : Nat) : Int) := by rw [show (i : Int) + 1 = ((i + 1 : Nat) : Int) by omega]; exact wrN _ (by omega)
  have HLs := Aside0.mk hl
  have i1 : (i : Int) ≤ (xs.length : Int) := by omega
  have i2 : i ≤ cap := by omega
  have i3 : i + 1 ≤ xs.length := by omega
  have i4 : i + 1 ≤ cap := by omega
  have HF := Aside0.mk (Kd.N_F h.2.2.1)
  clear h hl
  go_enter Try.func29, Try.ntmps29
  go_wp2_with fail
  refine (at_calls B g _ xs ok i _ H.out).mono ?_
  rw [HA.out]
  rintro e w2 ⟨rfl, rfl⟩
  go_upto_region 4 with (fail)
  have hla : (xs.take i).length = i := by rw [List.length_take]; omega
  have hlb : (xs.drop (i + 1)).length = xs.length - (i + 1) := by rw [List.length_drop]
  have hF1 : Kd.F kT w2 ok (some ⟨gl, 0, none⟩) (xs.take i).length (xs.take i) := Kd.F_take HF.out (by omega)
  have hF2 := Kd.F_cut (m := i + 1) (c := cap) HF.out i3 hcap
  have HF1 := Aside0.mk hF1
  have HLA := Aside0.mk hla
  have HLB := Aside0.mk hlb
  have HSM : Aside0 ((xs.take i).length + (xs.drop (i + 1)).length ≤ 1000) := ⟨by have := HLs.out; omega⟩
  by_cases hcc : cap = i + 1
  · rw [if_pos hcc] at hF2
    have HF2 := Aside0.mk hF2
    have hc1 : (cap = i + 1) = True := eq_true hcc
    have i5 : (i : Int) ≤ (cap : Int) := by omega
    have i6 : (0 : Int) ≤ (i : Int) := by omega
    have i7 : (i : Int) + 1 ≤ (xs.length : Int) := by omega
    have i8 : (xs.length : Int) ≤ (cap : Int) := by omega
    have w1' : IntKind.i64.wrap ((i : Int) + 1) = (i : Int) + 1 := by have := w1; rw [show ((i + 1 : Nat) : Int) = (i : Int) + 1 by omega] at this; rw [i64_w]; exact this
    have i9 : (0 : Int) ≤ (i : Int) + 1 := by omega
    clear hF1 hF2 hla hlb hcc w1
    go_region_law (go_simp; go_at_call 31; refine (concat_n w2.heap.size i (xs.length - (i + 1)) (some ⟨gl, 0, none⟩) (some ⟨gl, 0, none⟩) cap (cap - (i + 1)) (xs.take i) (xs.drop (i + 1)) (fun k => ok k ∧ k < w2.heap.size) (fun k => ok k ∨ w2.heap.size ≤ k) _ HLA.out HLB.out (by first | exact blk_new _ _ | exact blk_drew (blk_new _ _) | exact blk_drewN (blk_new _ _) _) (Kd.F_below (Kd.F_bound HF1.out) (by repeat (first | (with_reducible first | exact Below.refl _ _ | apply below_alloc | apply pw_below_drewN | apply below_drew1)))) (Kd.F_below (Kd.F_bound HF2.out) (by repeat (first | (with_reducible first | exact Below.refl _ _ | apply below_alloc | apply pw_below_drewN | apply below_drew1)))) (fun k hk => .inl hk.1) (fun k hk => .inr (Nat.le_trans (below_size (by repeat (first | (with_reducible first | exact Below.refl _ _ | apply below_alloc | apply pw_below_drewN | apply below_drew1)))) hk)) HSM.out).mono ?_; rintro e w3 ⟨v', rfl, hN, hb⟩; obtain ⟨A9, m9, d9, rfl⟩ : ∃ A m c, v' = Value.slice A m c := (by obtain ⟨A, c, h⟩ := Kd.N_slice hN; exact ⟨A, _, c, h⟩); have HB3 := Aside0.mk (show Below w2.heap.size w2 w3 from below_step (by repeat (first | (with_reducible first | exact Below.refl _ _ | apply below_alloc | apply pw_below_drewN | apply below_drew1))) hb); have HN3 := Aside0.mk (Kd.N_lower hN (show w2.heap.size ≤ _ from below_size (by repeat (first | (with_reducible first | exact Below.refl _ _ | apply below_alloc | apply pw_below_drewN | apply below_drew1))))); have hbk := blk_below H.out.1 HB3.out; have HBK := Aside0.mk hbk; have c9 := blk_cell hbk 0; have f9 := blk_frozen hbk 0; clear hN hb hbk; simp at c9)
    all_goals
      have hlt := blk_lt H.out.1
      have hok : ∀ k, (ok k ∨ w2.heap.size ≤ k) → k ≠ g := fun k hk => by
        rcases hk with hk | hk
        · exact H.out.2.2.2 k hk
        · omega
      have hBs : B ≤ w2.heap.size := Nat.le_trans H.out.2.1 (Nat.le_of_lt hlt)
      have hcut : (xs.take i) ++ (xs.drop (i + 1)) = xs.eraseIdx i := (List.eraseIdx_eq_take_drop_succ xs i).symm
      have HQ : Aside0 (QL B (w3.setCell ⟨g, 0, none⟩ (.slice A9 m9 d9)) g (.slice A9 m9 d9) (xs.eraseIdx i) (fun k => ok k ∨ w2.heap.size ≤ k)) :=
        ⟨blk_set HBK.out 0 _, H.out.2.1, Kd.N_far (p := ⟨g, 0, none⟩) (hcut ▸ Kd.N_lower HN3.out hBs) hok _, hok⟩
      have HK : Aside0 (Kq B w2 (w3.setCell ⟨g, 0, none⟩ (.slice A9 m9 d9)) g (.slice (some ⟨gl, 0, none⟩) xs.length cap) (.slice A9 m9 d9)) :=
        ⟨(HB3.out.mono hBs).setCell H.out.2.1 _, (KeepBut.of_below HB3.out g _).set_ 0 _, fun k hk => .inr (Kd.N_base HN3.out k hk)⟩
      clear hlt hok hBs hcut
      go_wp2
      go_ret
      exact ⟨rfl, _, HQ.out, HK.out⟩
  · rw [if_neg hcc] at hF2
    rw [show (some (⟨gl, 0, none⟩ : Addr)).map (·.add ((i + 1) * kT.sz)) = some ⟨gl, i + 1, none⟩ by simp [add_plain, show kT.sz = 1 from rfl]] at hF2
    have HF2 := Aside0.mk hF2
    have hc1 : (cap = i + 1) = False := eq_false hcc
    have i5 : (i : Int) ≤ (cap : Int) := by omega
    have i6 : (0 : Int) ≤ (i : Int) := by omega
    have i7 : (i : Int) + 1 ≤ (xs.length : Int) := by omega
    have i8 : (xs.length : Int) ≤ (cap : Int) := by omega
    have w1' : IntKind.i64.wrap ((i : Int) + 1) = (i : Int) + 1 := by have := w1; rw [show ((i + 1 : Nat) : Int) = (i : Int) + 1 by omega] at this; rw [i64_w]; exact this
    have i9 : (0 : Int) ≤ (i : Int) + 1 := by omega
    clear hF1 hF2 hla hlb hcc w1
    go_region_law (go_simp; go_at_call 31; refine (concat_n w2.heap.size i (xs.length - (i + 1)) (some ⟨gl, 0, none⟩) (some ⟨gl, i + 1, none⟩) cap (cap - (i + 1)) (xs.take i) (xs.drop (i + 1)) (fun k => ok k ∧ k < w2.heap.size) (fun k => ok k ∨ w2.heap.size ≤ k) _ HLA.out HLB.out (by first | exact blk_new _ _ | exact blk_drew (blk_new _ _) | exact blk_drewN (blk_new _ _) _) (Kd.F_below (Kd.F_bound HF1.out) (by repeat (first | (with_reducible first | exact Below.refl _ _ | apply below_alloc | apply pw_below_drewN | apply below_drew1)))) (Kd.F_below (Kd.F_bound HF2.out) (by repeat (first | (with_reducible first | exact Below.refl _ _ | apply below_alloc | apply pw_below_drewN | apply below_drew1)))) (fun k hk => .inl hk.1) (fun k hk => .inr (Nat.le_trans (below_size (by repeat (first | (with_reducible first | exact Below.refl _ _ | apply below_alloc | apply pw_below_drewN | apply below_drew1)))) hk)) HSM.out).mono ?_; rintro e w3 ⟨v', rfl, hN, hb⟩; obtain ⟨A9, m9, d9, rfl⟩ : ∃ A m c, v' = Value.slice A m c := (by obtain ⟨A, c, h⟩ := Kd.N_slice hN; exact ⟨A, _, c, h⟩); have HB3 := Aside0.mk (show Below w2.heap.size w2 w3 from below_step (by repeat (first | (with_reducible first | exact Below.refl _ _ | apply below_alloc | apply pw_below_drewN | apply below_drew1))) hb); have HN3 := Aside0.mk (Kd.N_lower hN (show w2.heap.size ≤ _ from below_size (by repeat (first | (with_reducible first | exact Below.refl _ _ | apply below_alloc | apply pw_below_drewN | apply below_drew1))))); have hbk := blk_below H.out.1 HB3.out; have HBK := Aside0.mk hbk; have c9 := blk_cell hbk 0; have f9 := blk_frozen hbk 0; clear hN hb hbk; simp at c9)
    all_goals
      have hlt := blk_lt H.out.1
      have hok : ∀ k, (ok k ∨ w2.heap.size ≤ k) → k ≠ g := fun k hk => by
        rcases hk with hk | hk
        · exact H.out.2.2.2 k hk
        · omega
      have hBs : B ≤ w2.heap.size := Nat.le_trans H.out.2.1 (Nat.le_of_lt hlt)
      have hcut : (xs.take i) ++ (xs.drop (i + 1)) = xs.eraseIdx i := (List.eraseIdx_eq_take_drop_succ xs i).symm
      have HQ : Aside0 (QL B (w3.setCell ⟨g, 0, none⟩ (.slice A9 m9 d9)) g (.slice A9 m9 d9) (xs.eraseIdx i) (fun k => ok k ∨ w2.heap.size ≤ k)) :=
        ⟨blk_set HBK.out 0 _, H.out.2.1, Kd.N_far (p := ⟨g, 0, none⟩) (hcut ▸ Kd.N_lower HN3.out hBs) hok _, hok⟩
      have HK : Aside0 (Kq B w2 (w3.setCell ⟨g, 0, none⟩ (.slice A9 m9 d9)) g (.slice (some ⟨gl, 0, none⟩) xs.length cap) (.slice A9 m9 d9)) :=
        ⟨(HB3.out.mono hBs).setCell H.out.2.1 _, (KeepBut.of_below HB3.out g _).set_ 0 _, fun k hk => .inr (Kd.N_base HN3.out k hk)⟩
      clear hlt hok hBs hcut
      go_wp2
      go_ret
      exact ⟨rfl, _, HQ.out, HK.out⟩
end Go.Proofs.Ythimnnnfgangbaa.Qu
