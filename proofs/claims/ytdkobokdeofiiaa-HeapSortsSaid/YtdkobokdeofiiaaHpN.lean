/- Contract of heap.New, for every input. -/
import Derived.Test.YtdkobokdeofiiaaHpV
set_option linter.unusedVariables false
set_option linter.unusedSimpArgs false
namespace Go.Proofs.Ytdkobokdeofiiaa.Hp
open Go.RowKit Go.Proofs.YtdkobokdeofiiaaW.PrintWords Go.Proofs.YtdkobokdeofiiaaW.PrintLast Go.Proofs.YtdkobokdeofiiaaW.PrintMore

def newF (xs : List S30) : List S30 := xs.foldl putF []
theorem newF_snoc (xs : List S30) (x : S30) : newF (xs ++ [x]) = putF (newF xs) x := by unfold newF; rw [List.foldl_append]; rfl
theorem newF_law (xs : List S30) : Heaped (newF xs) ∧ (newF xs).Perm xs := by
  suffices h : ∀ (n : Nat) (xs : List S30), xs.length = n → Heaped (newF xs) ∧ (newF xs).Perm xs from h _ xs rfl
  intro n
  induction n with
  | zero =>
    intro xs hx
    rw [List.eq_nil_of_length_eq_zero hx]
    exact ⟨fun j hj hjn => by simp [newF] at hjn, List.Perm.refl _⟩
  | succ n ih =>
    intro xs hx
    rcases List.eq_nil_or_concat xs with rfl | ⟨ys, x, rfl⟩
    · simp at hx
    · rw [List.concat_eq_append] at *
      rw [newF_snoc]
      obtain ⟨i1, i2⟩ := ih ys (by simpa using hx)
      obtain ⟨h1, h2⟩ := put_law (newF ys) x i1
      exact ⟨h1, h2.trans (List.Perm.append_right [x] i2)⟩
theorem newF_len (xs : List S30) : (newF xs).length = xs.length := (newF_law xs).2.length_eq
theorem voter30 {w : World} {A : Option Addr} {n : Nat} {xs : List S30} (h : Kd.C k30 w A n xs) {k : Nat} (hk : k < xs.length) (hn : n = xs.length) : ∃ ad, A = some ad ∧ w.cell? (ad.add (k * 2)) = some (.int .u64 (at_ xs k).f0) ∧ w.cell? ⟨(ad.add (k * 2)).block, (ad.add (k * 2)).off + 1, none⟩ = some (.int .i64 (at_ xs k).f1) := by
  obtain ⟨ad, e, h1, h2⟩ := at_T30 h (k : Int) (by omega) (by omega)
  rw [show ((k : Int)).toNat = k from by omega] at h1 h2
  have : rd_T30 xs (k : Int) = at_ xs k := rfl
  rw [this] at h1 h2
  exact ⟨ad, e, h1, h2⟩
theorem take_at {xs : List S30} {k : Nat} (hk : k < xs.length) : xs.take (k + 1) = xs.take k ++ [at_ xs k] := by
  rw [List.take_succ_eq_append_getElem hk, at_get hk]

set_option maxHeartbeats 800000 in
set_option maxRecDepth 100000 in
theorem new_calls (A : Option Addr) (c : Nat) (xs : List S30) (w : World) (hC : Kd.C k30 w A xs.length xs) (hl : xs.length ≤ 1000000) :
    Calls Try.prog 33 #[.slice A xs.length c] w fun e w' => ∃ gh v, e = .returned (.pointer (some ⟨gh, 0, none⟩)) ∧ HL w.heap.size w' gh v (newF xs) ∧ Below w.heap.size w w' := by
  have HC := Aside0.mk hC
  have HLs := Aside0.mk hl
  clear hC hl
  go_enter Try.func33, Try.ntmps33
  go_wp2_with fail
  go_loopw [10] (fun v10 W => ∃ (k : Nat) (v : Value), k ≤ xs.length ∧ v10 = .int .i64 k ∧ Aside0 (HL w.heap.size W w.heap.size v (newF (xs.take k))) ∧ Aside0 (Below w.heap.size w W)) (fun i _ => xs.length - (intOf i).toNat)
  case atStart => exact ⟨0, .slice none 0 0, Nat.zero_le _, rfl, ⟨blk_new w _, Nat.le_refl _, Kd.R_nil _ _ _ _ _⟩, ⟨below_alloc (Below.refl _ _) _⟩⟩
  case round =>
    obtain ⟨k, v, hk, rfl, HH, HB⟩ := hrel
    by_cases hlt : k < xs.length
    · obtain ⟨ad, rfl, h1, h2⟩ := voter30 (HC.out.imp_ (show Below w.heap.size w _ from HB.out) (fun _ _ hp => k30.K_below HB.out hp)) hlt rfl
      obtain ⟨x, hx⟩ : ∃ x, at_ xs k = x := ⟨_, rfl⟩
      rw [hx] at h1 h2
      have HX := Aside0.mk hx
      clear hx
      go_wp2_with fail
      refine (put_calls w.heap.size w.heap.size v (newF (xs.take k)) x _ (HH.out.below (below_alloc (Below.refl _ _) _)) (by rw [newF_len]; have := HLs.out; simp; omega)).mono ?_
      rintro e w1 ⟨rfl, v', h', hk'⟩
      have H1 := Aside0.mk h'
      have HB1 := Aside0.mk (below_then HB.out HB.out.size (below_alloc (Below.refl _ _) (Obj.cells #[Value.int IntKind.u64 x.f0, Value.int IntKind.i64 x.f1] 30)))
      have HB2 := Aside0.mk (HB1.out.trans hk'.1)
      clear h' hk' HB1
      have hl := HLs.out
      go_wp2
      go_roundw
      case rel => exact ⟨k + 1, v', by omega, by go_num, ⟨by rw [take_at hlt, newF_snoc, HX.out]; exact H1.out⟩, HB2⟩
      case measure => simp [intOf]; omega
    · obtain rfl : k = xs.length := by omega
      go_wp2
      go_ret
      rw [List.take_length] at HH
      exact ⟨_, v, rfl, HH.out, HB.out⟩
end Go.Proofs.Ytdkobokdeofiiaa.Hp
