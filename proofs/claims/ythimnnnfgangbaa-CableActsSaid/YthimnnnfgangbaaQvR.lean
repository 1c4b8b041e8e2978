/- Slices of texts and of acts that came in, read as lists, for every input. -/
import Derived.Test.YthimnnnfgangbaaQvT
import Derived.Deep.Slices
import Derived.Lib.SmallJoins
import Derived.OpenShut
set_option linter.unusedVariables false
set_option linter.unusedSimpArgs false
namespace Go.Proofs.Ythimnnnfgangbaa.Qu
open Go.RowKit Go.Deep Go.Proofs.YthimnnnfgangbaaW.PrintWords Go.Proofs.YthimnnnfgangbaaW.PrintLast Go.Proofs.YthimnnnfgangbaaW.PrintMore

/-- Opened: whatever each element reads as, the slice is a list of it. -/
theorem open_kd {H : Type} {enc : TypeId × Value → H} {P : Program} {w : World} {base : Nat} {spare : Nat → Bool} {held : Bool} {α : Type} [Inhabited α] (d : Kd α) {t e : TypeId} {fuel : Nat} {a0 : Option Addr} {len0 cap0 : Nat} {x : DataW H × List MemPlace}
    (ht : P.underlying t = some (.slice e)) (hs : P.cellsOf e = d.sz)
    (hel : ∀ n cs D Pl, DataW.trod enc P w base spare held n e cs = some (D, Pl) → ∃ x, d.K w x cs)
    (h : DataW.trod enc P w base spare held fuel t [.slice a0 len0 cap0] = some x) : ∃ xs : List α, xs.length = len0 ∧ len0 ≤ cap0 ∧ Kd.C d w a0 len0 xs := by
  rcases open_slice ht h with ⟨hc, _⟩ | ⟨a, len, cap, m, n, D, Pl, hc, hb, hl, hm, hmm, _, hx⟩
  · simp at hc
    obtain ⟨rfl, rfl, rfl⟩ := hc
    exact ⟨[], rfl, Nat.le_refl _, rfl, by omega, fun h => by omega⟩
  · simp at hc
    obtain ⟨rfl, rfl, rfl⟩ := hc
    have hlm : len0 ≤ m := by rw [hmm]; split <;> omega
    have hall : ∀ i, i < len0 → ∃ p : α, ∃ cs, w.cells? base (a.add (i * P.cellsOf e)) (P.cellsOf e) = some cs ∧ d.K w p cs := by
      intro i hi
      obtain ⟨cs, h1, h2⟩ := hx i (by omega)
      obtain ⟨p, hp⟩ := hel _ _ _ _ h2
      exact ⟨p, cs, h1, hp⟩
    obtain ⟨f, hf⟩ := choose_lt hall
    refine ⟨(List.range len0).map f, by simp, hl, by simp, by unfold maxLen at hm; omega, fun _ => ⟨a, rfl, fun j p hp => ?_⟩⟩
    have hj : j < len0 := by
      have := (List.getElem?_eq_some_iff.1 hp).1
      simpa using this
    have hp' : f j = p := by
      have := (List.getElem?_eq_some_iff.1 hp).2
      simpa using this
    obtain ⟨cs, h1, h2⟩ := hf j hj
    rw [hp'] at h2
    refine ⟨cs, d.K_len h2, h2, fun i u hu => ?_⟩
    obtain ⟨_, _, hcell⟩ := World.cells?_some h1
    have hi : i < P.cellsOf e := by
      have := (List.getElem?_eq_some_iff.1 hu).1
      have := d.K_len h2
      omega
    rw [← hs, ← Go.Deep.add_add, hcell i hi]
    exact hu


/-- The same, of the cells. -/
theorem open_kdc {H : Type} {enc : TypeId × Value → H} {P : Program} {w : World} {base : Nat} {spare : Nat → Bool} {held : Bool} {α : Type} [Inhabited α] (d : Kd α) {t e : TypeId} {fuel : Nat} {cs : List Value} {x : DataW H × List MemPlace}
    (ht : P.underlying t = some (.slice e)) (hs : P.cellsOf e = d.sz)
    (hel : ∀ n cs D Pl, DataW.trod enc P w base spare held n e cs = some (D, Pl) → ∃ x, d.K w x cs)
    (h : DataW.trod enc P w base spare held fuel t cs = some x) : ∃ (A : Option Addr) (c : Nat) (xs : List α), cs = [.slice A xs.length c] ∧ xs.length ≤ c ∧ Kd.C d w A xs.length xs := by
  rcases open_slice ht h with ⟨rfl, _⟩ | ⟨a, len, cap, m, n, D, Pl, rfl, _⟩
  · obtain ⟨xs, h1, h2, h3⟩ := open_kd d ht hs hel h
    exact ⟨none, 0, xs, by rw [h1], by rw [h1]; exact h2, by rw [h1]; exact h3⟩
  · obtain ⟨xs, h1, h2, h3⟩ := open_kd d ht hs hel h
    exact ⟨some a, cap, xs, by rw [h1], by rw [h1]; exact h2, by rw [h1]; exact h3⟩
theorem cells5_of : Try.prog.cellsOf 5 = 1 := by kernel_rfl
/-- A byte, opened. -/
theorem el5 {H : Type} {enc : TypeId × Value → H} {w : World} {base : Nat} {spare : Nat → Bool} {held : Bool} {n : Nat} {cs : List Value} {D : DataW H} {Pl : List MemPlace} (h : DataW.trod enc Try.prog w base spare held n 5 cs = some (D, Pl)) : ∃ x : Int, kB.K w x cs := by
  obtain ⟨a0, u0, _, _⟩ := DataW.trod_int Try.underlying5 h
  subst u0
  exact ⟨a0, rfl⟩
end Go.Proofs.Ythimnnnfgangbaa.Qu
