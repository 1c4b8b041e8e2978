/- Numbers that came in, read as a list, for every input. -/
import Derived.Test.YthimnnnfgangbaaDoorTsJ
import Derived.Test.YthimnnnfgangbaaDoorQrR
set_option linter.unusedVariables false
set_option linter.unusedSimpArgs false
namespace Go.Proofs.YthimnnnfgangbaaDoor.Ts
open Go.RowKit Go.Deep Go.Proofs.YthimnnnfgangbaaDoorW.PrintWords Go.Proofs.YthimnnnfgangbaaDoorW.PrintLast Go.Proofs.YthimnnnfgangbaaDoorW.PrintMore Go.Proofs.YthimnnnfgangbaaDoor.Qr
instance : Inhabited U64 := ⟨zU⟩
theorem open_u64 {H : Type} {enc : TypeId × Value → H} {w : World} {base : Nat} {spare : Nat → Bool} {held : Bool} {fuel : Nat} {a0 : Option Addr} {len0 cap0 : Nat} {x : DataW H × List MemPlace}
    (h : DataW.trod enc Tryd.prog w base spare held fuel 67 [.slice a0 len0 cap0] = some x) : ∃ xs : List U64, xs.length = len0 ∧ len0 ≤ cap0 ∧ Kd.C kU w a0 len0 xs :=
  open_kd kU Tryd.underlying67 (by kernel_rfl) (fun n cs D Pl h => by
    obtain ⟨a, rfl⟩ := oU Tryd.underlying39 h
    exact ⟨a, rfl⟩) h
end Go.Proofs.YthimnnnfgangbaaDoor.Ts
