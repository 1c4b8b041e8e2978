/- Queues in memory, and the contracts of New, at, Clear, Clone, for every input. -/
import Derived.Test.YthimnnnfgangbaaQuC
import Derived.Test.YthimnnnfgangbaaQuB
import Derived.WalkSpells
import Derived.LoopTactic
import Derived.BigRegion
import Derived.Deep.RegionLaw
set_option linter.unusedVariables false
set_option linter.unusedSimpArgs false
namespace Go.Proofs.Ythimnnnfgangbaa.Qu
open Go.RowKit Go.Proofs.YthimnnnfgangbaaW.PrintWords Go.Proofs.YthimnnnfgangbaaW.PrintLast Go.Proofs.YthimnnnfgangbaaW.PrintMore

/-- The world at this place, known by these facts alone. -/
theorem wp_world {P : Program} {C : Code} {Q : Exit → Act → World → Prop} {a : Act} {W : World} (F : World → Prop) (hF : F W) (h : ∀ W', F W' → C.wp P Q a W') : C.wp P Q a W := h W hF

/-- Texts. -/
abbrev kT : Kd (List Int) := Kd.slice 5 (Kd.int .u8)
/-- A queue: the block g holds the value v of its list; the texts are xs; what its list leads to lies in ok. -/
def QL (B : Nat) (w : World) (g : Nat) (v : Value) (xs : List (List Int)) (ok : Nat → Prop) : Prop := w.heap[g]? = some (.cells #[v] 63 (0, 0)) ∧ B ≤ g ∧ Kd.N kT 22 w B ok v xs ∧ ∀ k, ok k → k ≠ g
theorem QL.step {B : Nat} {w w' : World} {g : Nat} {v : Value} {xs : List (List Int)} {ok : Nat → Prop} (h : QL B w g v xs ok) (hg : w'.heap[g]? = w.heap[g]?) (hm : ∀ k, ok k → k < w.heap.size → w'.heap[k]? = w.heap[k]?) : QL B w' g v xs ok :=
  ⟨hg.trans h.1, h.2.1, Kd.N_step h.2.2.1 hm, h.2.2.2⟩
theorem QL.below {B : Nat} {w w' : World} {g : Nat} {v : Value} {xs : List (List Int)} {ok : Nat → Prop} (h : QL B w g v xs ok) (hb : Below w.heap.size w w') : QL B w' g v xs ok :=
  h.step (hb.block g (blk_lt h.1)) (fun k _ hk => hb.block k hk)
theorem QL.v {B : Nat} {w : World} {g : Nat} {v : Value} {xs : List (List Int)} {ok : Nat → Prop} (h : QL B w g v xs ok) : ∃ A c, v = .slice A xs.length c ∧ xs.length ≤ c ∧ Kd.C kT w A xs.length xs := Kd.N_reads h.2.2.1
/-- What is kept: all but the queue's two blocks. -/
def Kq (B : Nat) (w w' : World) (g : Nat) (v v' : Value) : Prop := Below B w w' ∧ KeepBut w w' g v.ownBlock ∧ (∀ k, v'.ownBlock = some k → v.ownBlock = some k ∨ w.heap.size ≤ k)
theorem Kq.of_below {B : Nat} {w w' : World} {g : Nat} (v : Value) (h : Below w.heap.size w w') (hB : B ≤ w.heap.size) : Kq B w w' g v v := ⟨h.mono hB, KeepBut.of_below h g v.ownBlock, fun _ hk => .inl hk⟩
theorem Kq.trans {B : Nat} {w w1 w2 : World} {g : Nat} {v v1 v2 : Value} (h : Kq B w w1 g v v1) (k : Kq B w1 w2 g v1 v2) : Kq B w w2 g v v2 := by
  refine ⟨h.1.trans k.1, ⟨Nat.le_trans h.2.1.1 k.2.1.1, fun i hi hg hr => ?_⟩, fun j hj => ?_⟩
  · refine (k.2.1.2 i (Nat.lt_of_lt_of_le hi h.2.1.1) hg (fun e => ?_)).trans (h.2.1.2 i hi hg hr)
    rcases h.2.2 i e.symm with h1 | h1
    · exact hr h1.symm
    · omega
  · rcases k.2.2 j hj with h1 | h1
    · exact h.2.2 j h1
    · exact .inr (Nat.le_trans h.2.1.1 h1)

set_option maxHeartbeats 400000 in
set_option maxRecDepth 100000 in
theorem new_calls (w : World) : Calls Try.prog 26 #[] w fun e w' => ∃ g, e = .returned (.pointer (some ⟨g, 0, none⟩)) ∧ w.heap.size ≤ g ∧ QL w.heap.size w' g (.slice none 0 0) [] (fun _ => False) ∧ Below w.heap.size w w' := by
  go_enter Try.func26, Try.ntmps26
  go_wp2
  go_ret
  exact ⟨_, rfl, Nat.le_refl _, ⟨blk_new w _, Nat.le_refl _, Kd.N_nil _ _ _ _ _, fun _ h => h.elim⟩, below_alloc (Below.refl _ _) _⟩

/-- Why there is no text at a place: 0 if there is one. -/
def atF (n : Nat) (i : Int) : Int := if 0 ≤ i ∧ i < n then 0 else 3

set_option maxHeartbeats 400000 in
set_option maxRecDepth 100000 in
theorem at_calls (B g : Nat) (v : Value) (xs : List (List Int)) (ok : Nat → Prop) (i : Int) (w : World) (h : QL B w g v xs ok) :
    Calls Try.prog 28 #[.pointer (some ⟨g, 0, none⟩), .int .i64 i] w fun e w' => e = .returned (.int .i64 (atF xs.length i)) ∧ w' = w := by
  obtain ⟨A, c, rfl, _, _⟩ := h.v
  have c0 := blk_cell h.1 0
  clear h
  simp at c0
  by_cases h0 : i < 0
  · have hr : atF xs.length i = 3 := by unfold atF; rw [if_neg (by omega)]
    have HR := Aside0.mk hr
    clear hr
    go_enter Try.func28, Try.ntmps28
    go_wp2
    go_ret
    exact ⟨by rw [HR.out]; rfl, rfl⟩
  · by_cases h1 : i < (xs.length : Int)
    · have hr : atF xs.length i = 0 := by unfold atF; rw [if_pos (by omega)]
      have HR := Aside0.mk hr
      have h2 : ¬ (xs.length : Int) ≤ i := by omega
      clear hr
      go_enter Try.func28, Try.ntmps28
      go_wp2
      go_ret
      exact ⟨by rw [HR.out]; rfl, rfl⟩
    · have hr : atF xs.length i = 3 := by unfold atF; rw [if_neg (by omega)]
      have HR := Aside0.mk hr
      have h2 : (xs.length : Int) ≤ i := by omega
      clear hr
      go_enter Try.func28, Try.ntmps28
      go_wp2
      go_ret
      exact ⟨by rw [HR.out]; rfl, rfl⟩
set_option maxHeartbeats 400000 in
set_option maxRecDepth 100000 in
theorem at_none (i : Int) (w : World) : Calls Try.prog 28 #[.pointer none, .int .i64 i] w fun e w' => e = .returned (.int .i64 6) ∧ w' = w := by
  go_enter Try.func28, Try.ntmps28
  go_wp2
  go_ret
  exact ⟨rfl, rfl⟩
set_option maxHeartbeats 400000 in
set_option maxRecDepth 100000 in
theorem clear_none (w : World) : Calls Try.prog 24 #[.pointer none] w fun e w' => e = .returned (.tuple #[]) ∧ w' = w := by
  go_enter Try.func24, Try.ntmps24
  go_wp2
  go_end0
  exact ⟨rfl, rfl⟩
set_option maxHeartbeats 400000 in
set_option maxRecDepth 100000 in
theorem clear_calls (B g : Nat) (v : Value) (xs : List (List Int)) (ok : Nat → Prop) (w : World) (h : QL B w g v xs ok) :
    Calls Try.prog 24 #[.pointer (some ⟨g, 0, none⟩)] w fun e w' => e = .returned (.tuple #[]) ∧ QL B w' g (.slice none 0 0) [] (fun _ => False) ∧ Kq B w w' g v (.slice none 0 0) := by
  have H := Aside0.mk h
  have c0 := blk_cell h.1 0
  have f0 := blk_frozen h.1 0
  clear h
  simp at c0
  go_enter Try.func24, Try.ntmps24
  go_wp2
  go_end0
  refine ⟨rfl, ⟨blk_set H.out.1 0 _, H.out.2.1, Kd.N_nil _ _ _ _ _, fun _ h => h.elim⟩, (Below.refl _ _).setCell H.out.2.1 _, (KeepBut.refl w g v.ownBlock).set_ 0 _, fun k hk => by simp [Value.ownBlock] at hk⟩
end Go.Proofs.Ythimnnnfgangbaa.Qu
