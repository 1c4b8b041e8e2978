/- Slices of spots and of acts that came in, read as lists, for every input. -/
import Derived.Test.YtdkobokdeofiiaaHpX
import Derived.Deep.Slices
import Derived.Lib.SmallJoins
import Derived.OpenShut
set_option linter.unusedVariables false
set_option linter.unusedSimpArgs false
namespace Go.Proofs.Ytdkobokdeofiiaa.Hp
open Go.RowKit Go.Deep Go.Proofs.YtdkobokdeofiiaaW.PrintWords Go.Proofs.YtdkobokdeofiiaaW.PrintLast Go.Proofs.YtdkobokdeofiiaaW.PrintMore

/-- Opened: whatever each element reads as, the slice is a list of it. -/
theorem open_kd {H : Type} {enc : TypeId × Value → H} {P : Program} {w : World} {base : Nat} {spare : Nat → Bool} {held : Bool} {α : Type} [Inhabited α] (d : Kd α) {t e : TypeId} {fuel : Nat} {a0 : Option Addr} {len0 cap0 : Nat} {x : DataW H × List MemPlace}
    (ht : P.underlying t = some (.slice e)) (hs : P.cellsOf e = d.sz)
    (hel : ∀ n cs D Pl, DataW.trod enc P w base spare held n e cs = some (D, Pl) → ∃ x, d.K w x cs)
    (h : DataW.trod enc P w base spare held fuel t [.slice a0 len0 cap0] = some x) : ∃ xs : List α, xs.length = len0 ∧ len0 ≤ cap0 ∧ Kd.C d w a0 len0 xs := by
  rcases open_slice ht h with ⟨hc, _⟩ | ⟨a, len, cap, m, n, D, Pl, hc, hb, hl, hm, hmm, _, hx⟩
  · simp at hc
    obtain ⟨rfl, rfl, rfl⟩ := hc
    exact ⟨[], rfl, Nat.le_refl _, rfl, by omega, fun h => by omega⟩
  · simp at hc
    obtain ⟨rfl, rfl, rfl⟩ := hc
    have hlm : len0 ≤ m := by rw [hmm]; split <;> omega
    have hall : ∀ i, i < len0 → ∃ p : α, ∃ cs, w.cells? base (a.add (i * P.cellsOf e)) (P.cellsOf e) = some cs ∧ d.K w p cs := by
      intro i hi
      obtain ⟨cs, h1, h2⟩ := hx i (by omega)
      obtain ⟨p, hp⟩ := hel _ _ _ _ h2
      exact ⟨p, cs, h1, hp⟩
    obtain ⟨f, hf⟩ := choose_lt hall
    refine ⟨(List.range len0).map f, by simp, hl, by simp, by unfold maxLen at hm; omega, fun _ => ⟨a, rfl, fun j p hp => ?_⟩⟩
    have hj : j < len0 := by
      have := (List.getElem?_eq_some_iff.1 hp).1
      simpa using this
    have hp' : f j = p := by
      have := (List.getElem?_eq_some_iff.1 hp).2
      simpa using this
    obtain ⟨cs, h1, h2⟩ := hf j hj
    rw [hp'] at h2
    refine ⟨cs, d.K_len h2, h2, fun i u hu => ?_⟩
    obtain ⟨_, _, hcell⟩ := World.cells?_some h1
    have hi : i < P.cellsOf e := by
      have := (List.getElem?_eq_some_iff.1 hu).1
      have := d.K_len h2
      omega
    rw [← hs, ← Go.Deep.add_add, hcell i hi]
    exact hu

theorem cells30_of : Try.prog.cellsOf 30 = 2 := by kernel_rfl
theorem cells58_of : Try.prog.cellsOf 58 = 3 := by kernel_rfl
theorem cells25_of : Try.prog.cellsOf 25 = 1 := by kernel_rfl
theorem cells3_of : Try.prog.cellsOf 3 = 1 := by kernel_rfl
theorem cells4_of : Try.prog.cellsOf 4 = 1 := by kernel_rfl
instance : Inhabited S30 := ⟨z30⟩
instance : Inhabited A58 := ⟨⟨false, z30⟩⟩
set_option maxRecDepth 100000 in
/-- A spot, opened. -/
theorem el30 {H : Type} {enc : TypeId × Value → H} {w : World} {base : Nat} {spare : Nat → Bool} {held : Bool} {n : Nat} {cs : List Value} {D : DataW H} {Pl : List MemPlace} (h : DataW.trod enc Try.prog w base spare held n 30 cs = some (D, Pl)) : ∃ x : S30, k30.K w x cs := by
  obtain ⟨y0, y1, m, _, hl, e0, e1⟩ := Go.ChangeShapes.trod_struct2 Try.underlying30 h
  rw [cells30_of] at hl
  match cs, hl with
  | [c0, c1], _ =>
    simp [cells3_of, cells25_of] at e0 e1
    obtain ⟨a0, u0, _, _⟩ := DataW.trod_int Try.underlying25 e0
    obtain ⟨a1, u1, _, _⟩ := DataW.trod_int Try.underlying3 e1
    simp at u0 u1
    subst u0 u1
    exact ⟨⟨a0, a1⟩, k30_mk w _⟩
set_option maxRecDepth 100000 in
/-- An act, opened. -/
theorem el58 {H : Type} {enc : TypeId × Value → H} {w : World} {base : Nat} {spare : Nat → Bool} {held : Bool} {n : Nat} {cs : List Value} {D : DataW H} {Pl : List MemPlace} (h : DataW.trod enc Try.prog w base spare held n 58 cs = some (D, Pl)) : ∃ x : A58, k58.K w x cs := by
  obtain ⟨y0, y1, m, _, hl, e0, e1⟩ := Go.ChangeShapes.trod_struct2 Try.underlying58 h
  rw [cells58_of] at hl
  match cs, hl with
  | [c0, c1, c2], _ =>
    simp [cells4_of, cells30_of] at e0 e1
    obtain ⟨a0, u0, _⟩ := DataW.trod_bool Try.underlying4 e0
    obtain ⟨x, hx⟩ := el30 e1
    have hc := k30_open hx
    simp at u0 hc
    obtain ⟨h1, h2⟩ := hc
    subst u0 h1 h2
    exact ⟨⟨a0, x⟩, k58_mk w ⟨a0, x⟩⟩
end Go.Proofs.Ytdkobokdeofiiaa.Hp
