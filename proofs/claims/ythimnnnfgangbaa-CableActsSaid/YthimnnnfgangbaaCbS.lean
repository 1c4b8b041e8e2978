/- Acts on a cable that came in, read as lists, for every input. -/
import Derived.Test.YthimnnnfgangbaaCbX
import Derived.Test.YthimnnnfgangbaaQvR
set_option linter.unusedVariables false
set_option linter.unusedSimpArgs false
namespace Go.Proofs.Ythimnnnfgangbaa.Cb
open Go.RowKit Go.Deep Go.Proofs.YthimnnnfgangbaaW.PrintWords Go.Proofs.YthimnnnfgangbaaW.PrintLast Go.Proofs.YthimnnnfgangbaaW.PrintMore Go.Proofs.Ythimnnnfgangbaa.Qu
theorem cells3_of : Try.prog.cellsOf 3 = 1 := by kernel_rfl
theorem cells4_of : Try.prog.cellsOf 4 = 1 := by kernel_rfl
theorem cells22_of : Try.prog.cellsOf 22 = 1 := by kernel_rfl
theorem cells25_of : Try.prog.cellsOf 25 = 2 := by kernel_rfl
theorem cells46_of : Try.prog.cellsOf 46 = 7 := by kernel_rfl
instance : Inhabited A46 := ⟨⟨0, 0, 0, [], false, 0, 0⟩⟩
theorem trod_struct6 {H : Type} {enc : TypeId × Value → H} {P : Program} {w : World} {base : Nat} {spare : Nat → Bool} {held : Bool} {t : TypeId} {f0 f1 f2 f3 f4 f5 : Field} {fuel : Nat} {cs : List Value} {x : DataW H × List MemPlace} (ht : P.underlying t = some (.struct #[f0, f1, f2, f3, f4, f5])) (h : DataW.trod enc P w base spare held fuel t cs = some x) :
    ∃ y0 y1 y2 y3 y4 y5 n, cs.length = P.cellsOf t ∧ DataW.trod enc P w base spare held n f0.type ((cs.drop f0.offset).take (P.cellsOf f0.type)) = some y0 ∧
      DataW.trod enc P w base spare held n f1.type ((cs.drop f1.offset).take (P.cellsOf f1.type)) = some y1 ∧ DataW.trod enc P w base spare held n f2.type ((cs.drop f2.offset).take (P.cellsOf f2.type)) = some y2 ∧
      DataW.trod enc P w base spare held n f3.type ((cs.drop f3.offset).take (P.cellsOf f3.type)) = some y3 ∧ DataW.trod enc P w base spare held n f4.type ((cs.drop f4.offset).take (P.cellsOf f4.type)) = some y4 ∧ DataW.trod enc P w base spare held n f5.type ((cs.drop f5.offset).take (P.cellsOf f5.type)) = some y5 := by
  obtain ⟨xs, n, _, rfl, hl, hlen, hf⟩ := DataW.trod_struct ht h
  match xs, hlen with
  | [y0, y1, y2, y3, y4, y5], _ => exact ⟨y0, y1, y2, y3, y4, y5, n, hl, by simpa using hf 0 f0 rfl, by simpa using hf 1 f1 rfl, by simpa using hf 2 f2 rfl, by simpa using hf 3 f3 rfl, by simpa using hf 4 f4 rfl, by simpa using hf 5 f5 rfl⟩
set_option maxRecDepth 100000 in
/-- An act, opened. -/
theorem el46 {H : Type} {enc : TypeId × Value → H} {w : World} {base : Nat} {spare : Nat → Bool} {held : Bool} {n : Nat} {cs : List Value} {D : DataW H} {Pl : List MemPlace} (h : DataW.trod enc Try.prog w base spare held n 46 cs = some (D, Pl)) : ∃ x : A46, k46.K w x cs := by
  obtain ⟨y0, y1, y2, y3, y4, y5, m, hl, e0, e1, e2, e3, e4, e5⟩ := trod_struct6 Try.underlying46 h
  rw [cells46_of] at hl
  match cs, hl with
  | [c0, c1, c2, c3, c4, c5, c6], _ =>
    simp [cells3_of, cells22_of, cells4_of, cells25_of] at e0 e1 e2 e3 e4 e5
    obtain ⟨a0, u0, _, _⟩ := DataW.trod_int Try.underlying3 e0
    obtain ⟨a1, u1, _, _⟩ := DataW.trod_int Try.underlying3 e1
    obtain ⟨a2, u2, _, _⟩ := DataW.trod_int Try.underlying3 e2
    obtain ⟨A, c, xs, u3, hl1, hC1⟩ := open_kdc kB Try.underlying22 cells5_of (fun n cs D Pl h => el5 h) e3
    obtain ⟨a4, u4, _⟩ := DataW.trod_bool Try.underlying4 e4
    obtain ⟨zs, m5, _, _, _, hlen, hxs⟩ := DataW.trod_array Try.underlying25 e5
    obtain ⟨z0, z1, rfl⟩ : ∃ z0 z1, zs = [z0, z1] := by
      match zs, hlen with
      | [z0, z1], _ => exact ⟨z0, z1, rfl⟩
    have g0 := hxs 0 (by omega)
    have g1 := hxs 1 (by omega)
    rw [cells3_of] at g0 g1
    simp at g0 g1
    obtain ⟨a5, u5, _, _⟩ := DataW.trod_int Try.underlying3 g0
    obtain ⟨a6, u6, _, _⟩ := DataW.trod_int Try.underlying3 g1
    simp at u0 u1 u2 u3 u4 u5 u6
    subst u0 u1 u2 u3 u4 u5 u6
    exact ⟨⟨a0, a1, a2, xs, a4, a5, a6⟩, k46_mk w ⟨a0, a1, a2, xs, a4, a5, a6⟩ A c hl1 hC1⟩
theorem acts_any (A : Option Addr) (c : Nat) (as_ : List A46) (a b : Int) (w : World) (hC : Kd.C k46 w A as_.length as_) :
    Calls Try.prog 4 #[.int .i64 a, .int .i64 b, .slice A as_.length c] w fun e w' => e = .returned (.bool true) ∧ Below w.heap.size w w' := by
  by_cases h : 60 < as_.length
  · exact acts_long A c as_ a b w h
  · by_cases h2 : 1 ≤ a ∧ a < b ∧ b ≤ 64
    · exact acts_short A c as_ a b w hC (by omega) h2.1 h2.2.1 h2.2.2
    · exact acts_bad A c as_.length a b w (by omega) h2
end Go.Proofs.Ythimnnnfgangbaa.Cb
