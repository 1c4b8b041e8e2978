/- A slice of structs that came in, read as a list, for every input. -/
import Derived.Test.YtdkobokdeofiiaaElH
import Derived.Deep.Slices
import Derived.Lib.SmallJoins
import Derived.OpenShut
set_option linter.unusedVariables false
set_option linter.unusedSimpArgs false
namespace Go.Proofs.Ytdkobokdeofiiaa.El
open Go.RowKit Go.Deep Go.Proofs.YtdkobokdeofiiaaW.PrintWords Go.Proofs.YtdkobokdeofiiaaW.PrintLast Go.Proofs.YtdkobokdeofiiaaW.PrintMore

/-- Opened: whatever each element reads as, the slice is a list of it. -/
theorem open_kd {H : Type} {enc : TypeId × Value → H} {P : Program} {w : World} {base : Nat} {spare : Nat → Bool} {held : Bool} {α : Type} [Inhabited α] (d : Kd α) {t e : TypeId} {fuel : Nat} {a0 : Option Addr} {len0 cap0 : Nat} {x : DataW H × List MemPlace}
    (ht : P.underlying t = some (.slice e)) (hs : P.cellsOf e = d.sz)
    (hel : ∀ n cs D Pl, DataW.trod enc P w base spare held n e cs = some (D, Pl) → ∃ x, d.K w x cs)
    (h : DataW.trod enc P w base spare held fuel t [.slice a0 len0 cap0] = some x) : ∃ xs : List α, xs.length = len0 ∧ len0 ≤ cap0 ∧ Kd.C d w a0 len0 xs := by
  rcases open_slice ht h with ⟨hc, _⟩ | ⟨a, len, cap, m, n, D, Pl, hc, hb, hl, hm, hmm, _, hx⟩
  · simp at hc
    obtain ⟨rfl, rfl, rfl⟩ := hc
    exact ⟨[], rfl, Nat.le_refl _, rfl, by omega, fun h => by omega⟩
  · simp at hc
    obtain ⟨rfl, rfl, rfl⟩ := hc
    have hlm : len0 ≤ m := by rw [hmm]; split <;> omega
    have hall : ∀ i, i < len0 → ∃ p : α, ∃ cs, w.cells? base (a.add (i * P.cellsOf e)) (P.cellsOf e) = some cs ∧ d.K w p cs := by
      intro i hi
      obtain ⟨cs, h1, h2⟩ := hx i (by omega)
      obtain ⟨p, hp⟩ := hel _ _ _ _ h2
      exact ⟨p, cs, h1, hp⟩
    obtain ⟨f, hf⟩ := choose_lt hall
    refine ⟨(List.range len0).map f, by simp, hl, by simp, by unfold maxLen at hm; omega, fun _ => ⟨a, rfl, fun j p hp => ?_⟩⟩
    have hj : j < len0 := by
      have := (List.getElem?_eq_some_iff.1 hp).1
      simpa using this
    have hp' : f j = p := by
      have := (List.getElem?_eq_some_iff.1 hp).2
      simpa using this
    obtain ⟨cs, h1, h2⟩ := hf j hj
    rw [hp'] at h2
    refine ⟨cs, d.K_len h2, h2, fun i u hu => ?_⟩
    obtain ⟨_, _, hcell⟩ := World.cells?_some h1
    have hi : i < P.cellsOf e := by
      have := (List.getElem?_eq_some_iff.1 hu).1
      have := d.K_len h2
      omega
    rw [← hs, ← Go.Deep.add_add, hcell i hi]
    exact hu

theorem cells52 : Try.prog.cellsOf 52 = 4 := by kernel_rfl
theorem cells3 : Try.prog.cellsOf 3 = 1 := by kernel_rfl
instance : Inhabited S52 := ⟨z52⟩
set_option maxRecDepth 100000 in
/-- A voter, opened. -/
theorem el52 {H : Type} {enc : TypeId × Value → H} {w : World} {base : Nat} {spare : Nat → Bool} {held : Bool} {n : Nat} {cs : List Value} {D : DataW H} {Pl : List MemPlace} (h : DataW.trod enc Try.prog w base spare held n 52 cs = some (D, Pl)) : ∃ x : S52, k52.K w x cs := by
  obtain ⟨y0, y1, y2, y3, m, _, hl, e0, e1, e2, e3⟩ := Go.Joins.trod_struct4 Try.underlying52 h
  rw [cells52] at hl
  match cs, hl with
  | [c0, c1, c2, c3], _ =>
    simp [cells3] at e0 e1 e2 e3
    obtain ⟨a0, u0, _, _⟩ := DataW.trod_int Try.underlying3 e0
    obtain ⟨a1, u1, _, _⟩ := DataW.trod_int Try.underlying3 e1
    obtain ⟨a2, u2, _, _⟩ := DataW.trod_int Try.underlying3 e2
    obtain ⟨a3, u3, _, _⟩ := DataW.trod_int Try.underlying3 e3
    simp at u0 u1 u2 u3
    subst u0 u1 u2 u3
    exact ⟨⟨a0, a1, a2, a3⟩, k52_mk w _⟩
end Go.Proofs.Ytdkobokdeofiiaa.El
