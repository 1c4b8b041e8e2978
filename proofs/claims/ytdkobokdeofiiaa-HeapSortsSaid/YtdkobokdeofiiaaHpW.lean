/- awake, and the plain facts of the reference's First and Without, for every input. -/
import Derived.Test.YtdkobokdeofiiaaHpK
set_option linter.unusedVariables false
set_option linter.unusedSimpArgs false
namespace Go.Proofs.Ytdkobokdeofiiaa.Hp
open Go.RowKit Go.Proofs.YtdkobokdeofiiaaW.PrintWords Go.Proofs.YtdkobokdeofiiaaW.PrintLast Go.Proofs.YtdkobokdeofiiaaW.PrintMore

def threeL : List S30 := [⟨3, 1⟩, ⟨1, 2⟩, ⟨2, 3⟩]
theorem SB_three (w : World) (g : Nat) (h : w.heap[g]? = some (.cells #[.int .u64 3, .int .i64 1, .int .u64 1, .int .i64 2, .int .u64 2, .int .i64 3] 30 (0, 0))) : SB w g 3 threeL := by
  refine ⟨_, h, rfl, by decide, by decide, fun j x hx => ?_⟩
  match j, hx with
  | 0, hx => injection hx with hx; subst hx; exact ⟨rfl, rfl⟩
  | 1, hx => injection hx with hx; subst hx; exact ⟨rfl, rfl⟩
  | 2, hx => injection hx with hx; subst hx; exact ⟨rfl, rfl⟩
theorem three_new : newF threeL = [⟨1, 2⟩, ⟨3, 1⟩, ⟨2, 3⟩] := by kernel_rfl
theorem three_take : (takeF [⟨1, 2⟩, ⟨3, 1⟩, ⟨2, 3⟩]).length = 2 := by kernel_rfl

set_option maxHeartbeats 800000 in
set_option maxRecDepth 100000 in
theorem awake_calls (w : World) : Calls Try.prog 32 #[] w fun e w' => e = .returned (.bool true) ∧ Below w.heap.size w w' := by
  go_enter Try.func32, Try.ntmps32
  go_wp2_with fail
  refine (new_calls (some ⟨w.heap.size, 0, none⟩) 3 threeL _ (SB_three _ w.heap.size (blk_new w _)).C (by decide)).mono ?_
  rintro e w1 ⟨gh, v, rfl, hH, hb⟩
  rw [three_new] at hH
  have H1 := Aside0.mk hH
  have HB := Aside0.mk (below_step (below_alloc (Below.refl _ _) _) hb)
  have HG : Aside0 (w.heap.size ≤ gh) := ⟨by have := hH.2.1; simp at this; omega⟩
  clear hH hb
  go_wp2_with fail
  refine (take_one _ gh v _ _ w1 H1.out (by decide)).mono ?_
  rintro e w2 ⟨rfl, v2, hH, hk⟩
  have H2 := Aside0.mk hH
  have HB2 := Aside0.mk (HB.out.trans (hk.1.mono (show w.heap.size ≤ _ by simp)))
  clear hH hk H1 HB
  go_upto_region 3 with (fail)
  obtain ⟨g4, hg4⟩ : ∃ g4, w2.heap.size = g4 := ⟨_, rfl⟩
  refine wp_world (fun W => Aside0 (W.heap[g4]? = some (.cells #[.int .u64 1, .int .i64 2] 30 (0, 0))) ∧ Aside0 (HL (w.alloc (Obj.cells #[Value.int IntKind.u64 3, Value.int IntKind.i64 1, Value.int IntKind.u64 1, Value.int IntKind.i64 2, Value.int IntKind.u64 2, Value.int IntKind.i64 3] 30)).heap.size W gh v2 (takeF [⟨1, 2⟩, ⟨3, 1⟩, ⟨2, 3⟩])) ∧ Aside0 (Below w.heap.size w W)) ⟨⟨?_⟩, ⟨?_⟩, ⟨?_⟩⟩ ?_
  · subst hg4
    exact blk_new w2 _
  · exact H2.out.below (below_alloc (Below.refl _ _) _)
  · exact below_alloc HB2.out _
  rw [hg4]
  clear hg4 H2 HB2
  rintro w3 ⟨B3, H3, HB3⟩
  have c0 := blk_cell B3.out 0
  have c1 := blk_cell B3.out 1
  simp at c0 c1
  go_wp2_with fail
  refine (len_calls _ gh v2 _ w3 H3.out).mono ?_
  rintro e w4 ⟨rfl, hb⟩
  rw [three_take]
  have HB4 := Aside0.mk (below_step HB3.out hb)
  clear hb
  go_wp2
  go_ret
  exact ⟨rfl, HB4.out⟩

theorem ref_less (a b : S30) : waymarkref22_Less.f a.f0 a.f1 b.f0 b.f1 = some (ltb a b) := by
  unfold waymarkref22_Less.f ltb
  by_cases h1 : a.f0 < b.f0
  · simp [h1]
  · by_cases h2 : a.f0 = b.f0
    · simp [h2]
    · simp [h1, h2]
theorem first_loop (xs : List S30) (hl : xs.length ≤ 1000000) : ∀ (n b i : Nat), i + n = xs.length → b < xs.length → 0 < i → (∀ j, j < i → ltb (at_ xs j) (at_ xs b) = false) →
    ∃ r : Nat, r < xs.length ∧ waymarkref23_First.l0 (n + 1) xs (b : Int) (i : Int) = some (r : Int) ∧ ∀ j, j < xs.length → ltb (at_ xs j) (at_ xs r) = false := by
  intro n
  induction n with
  | zero =>
    intro b i hi hb h0 h
    refine ⟨b, hb, ?_, fun j hj => h j (by omega)⟩
    unfold waymarkref23_First.l0
    rw [if_neg (by omega)]
  | succ n ih =>
    intro b i hi hb h0 h
    have hw : wrap64 ((i : Int) + 1) = ((i + 1 : Nat) : Int) := by
      rw [show (i : Int) + 1 = ((i + 1 : Nat) : Int) by omega]
      exact wrN _ (by omega)
    have e : waymarkref23_First.l0 (n + 1 + 1) xs (b : Int) (i : Int) = if ltb (at_ xs i) (at_ xs b) = true then waymarkref23_First.l0 (n + 1) xs (i : Int) (wrap64 ((i : Int) + 1)) else waymarkref23_First.l0 (n + 1) xs (b : Int) (wrap64 ((i : Int) + 1)) := by
      rw [waymarkref23_First.l0, if_pos (by omega), if_pos (by omega), if_pos (by omega), if_pos (by omega)]
      show (waymarkref22_Less.f (at_ xs i).f0 (at_ xs i).f1 (at_ xs b).f0 (at_ xs b).f1).bind _ = _
      rw [ref_less]
      rfl
    rw [e, hw]
    by_cases hc : ltb (at_ xs i) (at_ xs b) = true
    · rw [if_pos hc]
      refine ih i (i + 1) (by omega) (by omega) (by omega) (fun j hj => ?_)
      by_cases hj2 : j = i
      · subst hj2; exact ltb_irrefl _
      · exact ge_of_lt_ge hc (h j (by omega))
    · rw [if_neg hc]
      refine ih b (i + 1) (by omega) hb (by omega) (fun j hj => ?_)
      by_cases hj2 : j = i
      · subst hj2
        cases hb2 : ltb (at_ xs j) (at_ xs b)
        · rfl
        · exact absurd hb2 hc
      · exact h j (by omega)
theorem first_law (xs : List S30) (hl : xs.length ≤ 1000000) (h0 : 0 < xs.length) : ∃ r : Nat, r < xs.length ∧ waymarkref23_First.f xs.length xs = some (r : Int) ∧ ∀ j, j < xs.length → ltb (at_ xs j) (at_ xs r) = false := by
  obtain ⟨n, hn⟩ : ∃ n, n + 1 = xs.length := ⟨xs.length - 1, by omega⟩
  have := first_loop xs hl n 0 1 (by omega) h0 (by omega) (fun j hj => by obtain rfl : j = 0 := by omega
                                                                          exact ltb_irrefl _)
  rw [hn] at this
  exact this
theorem without_law (xs : List S30) (r : Nat) (hr : r < xs.length) (hl : xs.length ≤ 1000000) : waymarkref23_Without.f xs (r : Int) = some (xs.eraseIdx r) := by
  have hw : wrap64 ((r : Int) + 1) = ((r + 1 : Nat) : Int) := by
    rw [show (r : Int) + 1 = ((r + 1 : Nat) : Int) by omega]
    exact wrN _ (by omega)
  unfold waymarkref23_Without.f
  rw [hw]
  simp only [Option.bind_some]
  rw [if_pos (by omega), if_pos (by omega), if_pos (by simp; omega), if_pos (by omega), if_pos (by omega), if_pos (by simp; omega)]
  rw [List.eraseIdx_eq_take_drop_succ]
  simp
theorem erase_perm (xs : List S30) (r : Nat) (hr : r < xs.length) : (at_ xs r :: xs.eraseIdx r).Perm xs := by
  rw [at_get hr, List.eraseIdx_eq_take_drop_succ]
  refine List.perm_middle.symm.trans ?_
  rw [List.getElem_cons_drop, List.take_append_drop]
/-- The nearest one of a heap is that of any spots in other order. -/
theorem same_min {xs ys : List S30} (hp : xs.Perm ys) (hh : Heaped xs) (h0 : 0 < xs.length) {r : Nat} (hr : r < ys.length) (hm : ∀ j, j < ys.length → ltb (at_ ys j) (at_ ys r) = false) : at_ ys r = at_ xs 0 := by
  refine ltb_antisymm ?_ ?_
  · exact heap_min_mem xs hh _ (hp.mem_iff.2 (by rw [at_get hr]; exact List.getElem_mem hr))
  · obtain ⟨j, hj, e⟩ := List.getElem_of_mem (hp.mem_iff.1 (by rw [at_get h0]; exact List.getElem_mem h0 : at_ xs 0 ∈ xs))
    have := hm j hj
    rw [at_get hj, e] at this
    exact this
theorem take_perm {xs ys : List S30} (hp : xs.Perm ys) (hh : Heaped xs) (h0 : 0 < xs.length) {r : Nat} (hr : r < ys.length) (he : at_ ys r = at_ xs 0) : (takeF xs).Perm (ys.eraseIdx r) := by
  have h1 := (take_law xs hh h0).2
  have h2 := erase_perm ys r hr
  rw [he] at h2
  exact (h1.trans (hp.trans h2.symm)).cons_inv
end Go.Proofs.Ytdkobokdeofiiaa.Hp
