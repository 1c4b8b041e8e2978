/- What is to be told, as it came in, read as a list, for every input. -/
import Derived.Test.YthimnnnfgangbaaDoorCmF
import Derived.Test.YthimnnnfgangbaaDoorQrR
set_option linter.unusedVariables false
set_option linter.unusedSimpArgs false
namespace Go.Proofs.YthimnnnfgangbaaDoor.Cn
open Go.RowKit Go.Deep Go.Proofs.YthimnnnfgangbaaDoorW.PrintWords Go.Proofs.YthimnnnfgangbaaDoorW.PrintLast Go.Proofs.YthimnnnfgangbaaDoorW.PrintMore Go.Proofs.YthimnnnfgangbaaDoor.Qr
theorem ts4 {H : Type} {enc : TypeId × Value → H} {P : Program} {w : World} {base : Nat} {spare : Nat → Bool} {held : Bool} {t : TypeId} {f0 f1 f2 f3 : Field} {fuel : Nat} {cs : List Value} {x : DataW H × List MemPlace} (ht : P.underlying t = some (.struct #[f0, f1, f2, f3])) (h : DataW.trod enc P w base spare held fuel t cs = some x) :
    ∃ y0 y1 y2 y3 n, cs.length = P.cellsOf t ∧ x.1 = .agg [y0.1, y1.1, y2.1, y3.1] ∧ DataW.trod enc P w base spare held n f0.type ((cs.drop f0.offset).take (P.cellsOf f0.type)) = some y0 ∧
      DataW.trod enc P w base spare held n f1.type ((cs.drop f1.offset).take (P.cellsOf f1.type)) = some y1 ∧
      DataW.trod enc P w base spare held n f2.type ((cs.drop f2.offset).take (P.cellsOf f2.type)) = some y2 ∧
      DataW.trod enc P w base spare held n f3.type ((cs.drop f3.offset).take (P.cellsOf f3.type)) = some y3 := by
  obtain ⟨xs, n, _, rfl, hl, hlen, hf⟩ := DataW.trod_struct ht h
  match xs, hlen with
  | [y0, y1, y2, y3], _ => exact ⟨y0, y1, y2, y3, n, hl, rfl, by simpa using hf 0 f0 rfl, by simpa using hf 1 f1 rfl, by simpa using hf 2 f2 rfl, by simpa using hf 3 f3 rfl⟩
theorem cells51 : Tryd.prog.cellsOf 51 = 4 := by kernel_rfl
theorem cells3 : Tryd.prog.cellsOf 3 = 1 := by kernel_rfl
theorem cells9 : Tryd.prog.cellsOf 9 = 1 := by kernel_rfl
theorem kT_mk (w : World) (x : TT) : kT.K w x (cT x) := ⟨[.int .i64 x.a.1], [.int .i64 x.d.1, .string x.s, .int .i64 x.n.1], rfl, rfl, ⟨[.int .i64 x.d.1], [.string x.s, .int .i64 x.n.1], rfl, rfl, ⟨[.string x.s], [.int .i64 x.n.1], rfl, rfl, rfl⟩⟩⟩
set_option maxRecDepth 100000 in
theorem el51 {H : Type} {enc : TypeId × Value → H} {w : World} {base : Nat} {spare : Nat → Bool} {held : Bool} {n : Nat} {cs : List Value} {D : DataW H} {Pl : List MemPlace} (h : DataW.trod enc Tryd.prog w base spare held n 51 cs = some (D, Pl)) : ∃ x : TT, kT.K w x cs := by
  obtain ⟨y0, y1, y2, y3, m, hl, _, e0, e1, e2, e3⟩ := ts4 Tryd.underlying51 h
  rw [cells51] at hl
  match cs, hl with
  | [c0, c1, c2, c3], _ =>
    simp [cells3, cells9] at e0 e1 e2 e3
    obtain ⟨a0, u0⟩ := oI Tryd.underlying3 e0
    obtain ⟨a1, u1⟩ := oI Tryd.underlying3 e1
    obtain ⟨a2, u2, _, _⟩ := DataW.trod_string Tryd.underlying9 e2
    obtain ⟨a3, u3⟩ := oI Tryd.underlying3 e3
    simp at u0 u1 u2 u3
    subst u0 u1 u2 u3
    exact ⟨⟨a0, a1, a2, a3⟩, kT_mk w ⟨a0, a1, a2, a3⟩⟩
theorem open_told {H : Type} {enc : TypeId × Value → H} {w : World} {base : Nat} {spare : Nat → Bool} {held : Bool} {fuel : Nat} {a0 : Option Addr} {len0 cap0 : Nat} {x : DataW H × List MemPlace}
    (h : DataW.trod enc Tryd.prog w base spare held fuel 45 [.slice a0 len0 cap0] = some x) : ∃ xs : List TT, xs.length = len0 ∧ len0 ≤ cap0 ∧ Kd.C kT w a0 len0 xs :=
  open_kd kT Tryd.underlying45 cells51 (fun n cs D Pl h => el51 h) h
end Go.Proofs.YthimnnnfgangbaaDoor.Cn
