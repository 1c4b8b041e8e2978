/- A queue and a list of the law's own, side by side; Take with its text read behind the call, for every input. -/
import Derived.Test.YthimnnnfgangbaaQvP
set_option linter.unusedVariables false
set_option linter.unusedSimpArgs false
namespace Go.Proofs.Ythimnnnfgangbaa.Qu
open Go.RowKit Go.Proofs.YthimnnnfgangbaaW.PrintWords Go.Proofs.YthimnnnfgangbaaW.PrintLast Go.Proofs.YthimnnnfgangbaaW.PrintMore

/-- The text at a place of a row, and what it is read out of. -/
theorem N_text {W : World} {B : Nat} {ok : Nat → Prop} {A : Option Addr} {n c : Nat} {xs : List (List Int)} (h : Kd.N kT 22 W B ok (.slice A n c) xs) {i : Nat} (hi : i < xs.length) :
    ∃ ad A0 c0, A = some ad ∧ W.cell? (ad.add i) = some (.slice A0 (tx xs i).length c0) ∧ (tx xs i).length ≤ c0 ∧ Kd.F kB W (fun k => ok k ∧ some k ≠ (Value.slice A n c).ownBlock) A0 (tx xs i).length (tx xs i) := by
  have hn := (Kd.N_reads' h).1
  obtain ⟨g, cap, hv, _⟩ := Kd.N_form h (by omega)
  injection hv with hA _ _
  subst hA
  obtain ⟨cs, _, hK, hc⟩ := Kd.N_get h ([] : List Int) (i : Int) (by omega) (by omega)
  obtain ⟨A0, c0, rfl, hl, hF⟩ := Kd.FK_slice_open hK
  refine ⟨_, A0, c0, rfl, ?_, ?_, ?_⟩
  · have := hc 0 _ rfl
    rw [show ((i : Int)).toNat * kT.sz + 0 = i from by show ((i : Int)).toNat * 1 + 0 = i; omega] at this
    exact this
  · exact hl
  · exact hF

set_option maxHeartbeats 800000 in
set_option maxRecDepth 100000 in
theorem take_calls2 (B g : Nat) (v : Value) (xs : List (List Int)) (ok : Nat → Prop) (i : Nat) (w : World) (h : QL B w g v xs ok) (hl : xs.length ≤ 1000) (hi : i < xs.length) :
    Calls Try.prog 16 #[.pointer (some ⟨g, 0, none⟩), .int .i64 i] w fun e w' => ∃ A c, e = .returned (.tuple #[.slice A (tx xs i).length c, .int .i64 0]) ∧ (tx xs i).length ≤ c ∧ Kd.C kB w' A (tx xs i).length (tx xs i) ∧ ∃ v', QL B w' g v' (xs.eraseIdx i) (fun k => ok k ∨ w.heap.size ≤ k) ∧ Kq B w w' g v v' := by
  have H := Aside0.mk h
  have HA : Aside0 (atF xs.length i = 0) := ⟨by unfold atF; rw [if_pos (by omega)]⟩
  obtain ⟨A, c, rfl, hcap, _⟩ := h.v
  obtain ⟨ad, A0, c0, rfl, t0, t1, t2⟩ := N_text h.2.2.1 hi
  have p0 := blk_cell h.1 0
  simp at p0
  have i1 : (i : Int) < (xs.length : Int) := by omega
  have HLs := Aside0.mk hl
  have HT := Aside0.mk t2
  have HT1 := Aside0.mk t1
  have HI := Aside0.mk hi
  clear h hl t1 t2 hi
  go_enter Try.func16, Try.ntmps16
  go_wp2_with fail
  refine (at_calls B g _ xs ok i _ H.out).mono ?_
  rw [HA.out]
  rintro e w1 ⟨rfl, rfl⟩
  go_wp2_with fail
  refine (drop_calls B g _ xs ok i _ H.out HLs.out HI.out).mono ?_
  rintro e w2 ⟨rfl, v', hq, hk⟩
  have HQ := Aside0.mk hq
  have HK := Aside0.mk hk
  have HT2 := Aside0.mk (Kd.F_now (Kd.F_step HT.out (fun k hk' hlt => hk.2.1.2 k hlt (H.out.2.2.2 k hk'.1) hk'.2)))
  clear hq hk t0 p0
  go_wp2
  go_ret2
  exact ⟨A0, c0, rfl, HT1.out, HT2.out, v', HQ.out, HK.out⟩

/-- A queue at g with the texts xs, and a list lv of the law's own with the texts ys: neither lies in the other. -/
structure Tw (B : Nat) (W : World) (g : Nat) (v : Value) (okq okl : Nat → Prop) (lv : Value) (xs ys : List (List Int)) : Prop where
  q : QL B W g v xs okq
  n : Kd.N kT 22 W B okl lv ys
  a : ∀ k, okl k → k ≠ g
  b : ∀ k, okl k → v.ownBlock ≠ some k
  c : ∀ k, okq k → lv.ownBlock ≠ some k
theorem Tw.below {B : Nat} {W W' : World} {g : Nat} {v lv : Value} {okq okl : Nat → Prop} {xs ys : List (List Int)} (h : Tw B W g v okq okl lv xs ys) (hb : Below W.heap.size W W') : Tw B W' g v okq okl lv xs ys :=
  ⟨h.q.below hb, Kd.N_below h.n hb, h.a, h.b, h.c⟩
/-- The queue has turned. -/
theorem Tw.queue {B : Nat} {W W' : World} {g : Nat} {v v' lv : Value} {okq okq' okl : Nat → Prop} {xs xs' ys : List (List Int)} (h : Tw B W g v okq okl lv xs ys) (hq : QL B W' g v' xs' okq') (ho : ∀ k, okq' k → okq k ∨ W.heap.size ≤ k) (hk : Kq B W W' g v v') : Tw B W' g v' okq' (fun k => okl k ∧ k < W.heap.size) lv xs' ys := by
  refine ⟨hq, Kd.N_step (Kd.N_bound h.n) (fun k hk' hlt => hk.2.1.2 k hlt (h.a k hk'.1) (fun e => h.b k hk'.1 e.symm)), fun k hk' => h.a k hk'.1, fun k hk' e => ?_, fun k hk' e => ?_⟩
  · rcases hk.2.2 k e with e1 | e1
    · exact h.b k hk'.1 e1
    · have := hk'.2; omega
  · rcases ho k hk' with e1 | e1
    · exact h.c k e1 e
    · have := Kd.N_lt h.n k e; omega
/-- The list has turned. -/
theorem Tw.list {B : Nat} {W W' : World} {g : Nat} {v lv lv' : Value} {okq okl ok' : Nat → Prop} {xs ys ys' : List (List Int)} (h : Tw B W g v okq okl lv xs ys) (hb : Below W.heap.size W W') (hn : Kd.N kT 22 W' W.heap.size ok' lv' ys') (ho : ∀ k, ok' k → (k ≠ g ∧ v.ownBlock ≠ some k) ∨ W.heap.size ≤ k) : Tw B W' g v (fun k => okq k ∧ k < W.heap.size) ok' lv' xs ys' := by
  have hg := blk_lt h.q.1
  refine ⟨?_, Kd.N_lower hn (Nat.le_trans h.q.2.1 (Nat.le_of_lt hg)), fun k hk => ?_, fun k hk e => ?_, fun k hk e => ?_⟩
  · obtain ⟨q1, q2, q3, q4⟩ := h.q
    exact QL.below ⟨q1, q2, Kd.N_bound q3, fun k hk => q4 k hk.1⟩ hb
  · rcases ho k hk with e1 | e1
    · exact e1.1
    · omega
  · rcases ho k hk with e1 | e1
    · exact e1.2 e
    · have := Kd.N_lt h.q.2.2.1 k e; omega
  · have := Kd.N_base hn k e
    have := hk.2
    omega
/-- The queue and the list, of the same few texts. -/
def Two (B : Nat) (W : World) (g : Nat) (lv : Value) (xs : List (List Int)) : Prop :=
  ∃ v okq okl, Tw B W g v okq okl lv xs xs ∧ xs.length ≤ 32 ∧ ∀ x ∈ xs, x.length ≤ 200
theorem Two.below {B : Nat} {W W' : World} {g : Nat} {lv : Value} {xs : List (List Int)} (h : Two B W g lv xs) (hb : Below W.heap.size W W') : Two B W' g lv xs := by
  obtain ⟨v, okq, okl, ht, hl⟩ := h
  exact ⟨v, okq, okl, ht.below hb, hl⟩
theorem Two.slice {B : Nat} {W : World} {g : Nat} {lv : Value} {xs : List (List Int)} (h : Two B W g lv xs) : ∃ A c, lv = .slice A xs.length c := by
  obtain ⟨v, okq, okl, ht, hl⟩ := h
  exact Kd.N_slice ht.n
end Go.Proofs.Ythimnnnfgangbaa.Qu
