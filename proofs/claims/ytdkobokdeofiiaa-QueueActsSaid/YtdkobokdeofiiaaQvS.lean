/- Acts on a queue that came in, read as lists, for every input. -/
import Derived.Test.YtdkobokdeofiiaaQvX
import Derived.Test.YtdkobokdeofiiaaQvR
set_option linter.unusedVariables false
set_option linter.unusedSimpArgs false
namespace Go.Proofs.Ytdkobokdeofiiaa.Qu
open Go.RowKit Go.Deep Go.Proofs.YtdkobokdeofiiaaW.PrintWords Go.Proofs.YtdkobokdeofiiaaW.PrintLast Go.Proofs.YtdkobokdeofiiaaW.PrintMore
theorem cells3_of : Try.prog.cellsOf 3 = 1 := by kernel_rfl
theorem cells23_of : Try.prog.cellsOf 23 = 1 := by kernel_rfl
theorem cells78_of : Try.prog.cellsOf 78 = 3 := by kernel_rfl
instance : Inhabited A78 := ⟨⟨0, [], 0⟩⟩
set_option maxRecDepth 100000 in
/-- An act, opened. -/
theorem el78 {H : Type} {enc : TypeId × Value → H} {w : World} {base : Nat} {spare : Nat → Bool} {held : Bool} {n : Nat} {cs : List Value} {D : DataW H} {Pl : List MemPlace} (h : DataW.trod enc Try.prog w base spare held n 78 cs = some (D, Pl)) : ∃ x : A78, k78.K w x cs := by
  obtain ⟨y0, y1, y2, m, _, hl, e0, e1, e2⟩ := Go.Deep.trod_struct3 Try.underlying78 h
  rw [cells78_of] at hl
  match cs, hl with
  | [c0, c1, c2], _ =>
    simp [cells3_of, cells23_of] at e0 e1 e2
    obtain ⟨a0, u0, _, _⟩ := DataW.trod_int Try.underlying3 e0
    obtain ⟨a2, u2, _, _⟩ := DataW.trod_int Try.underlying3 e2
    simp at u0 u2
    subst u0 u2
    obtain ⟨A, c, xs, u1, hl1, hC1⟩ := open_kdc kB Try.underlying23 cells5_of (fun n cs D Pl h => el5 h) e1
    simp at u1
    subst u1
    exact ⟨⟨a0, xs, a2⟩, k78_mk w ⟨a0, xs, a2⟩ A c hl1 hC1⟩
end Go.Proofs.Ytdkobokdeofiiaa.Qu
