/- What the rows' lists of variables give: the tables' cells and the two errors; a world that holds them, for the witnesses; the arguments of the prefix laws, opened. -/
import Derived.Test.YtagpkphehkfjgaaDoorRows
import Derived.Test.YtagpkphehkfjgaaDoorPxE
import Derived.ProofKit
import Derived.OpenShut
import Derived.Deep.DeepHandedRow
import Derived.Lib.LaidTab
import Derived.LaidLaws
import Derived.Lay
import Derived.MakeChecks
import Derived.Shelf.Vars
set_option linter.unusedVariables false
set_option linter.unusedSimpArgs false
namespace Go.Proofs.YtagpkphehkfjgaaDoor.Px
open Go.RowKit
/-- The listed variables. -/
def laid7 : List (String × DataW Unit) := [("math/bits.deBruijn32tab", Rows.laid_math_bits_deBruijn32tab), ("math/bits.deBruijn64tab", Rows.laid_math_bits_deBruijn64tab), ("internal/strconv.uint64pow10", Rows.laid_internal_strconv_uint64pow10), ("unicode/utf8.acceptRanges", Rows.laid_unicode_utf8_acceptRanges), ("strconv.ErrRange", Rows.laid_strconv_ErrRange), ("strconv.ErrSyntax", Rows.laid_strconv_ErrSyntax), ("unicode/utf8.first", Rows.laid_unicode_utf8_first)]
theorem laid_tail {P : Program} {x : String × DataW Unit} {rest : List (String × DataW Unit)} {W : World} (h : laidMet P (x :: rest) W) : laidMet P rest W := by
  obtain ⟨ps, ⟨g, t, cs, fuel, p, q, _, _, _, _, hr, rfl⟩, hn, hc⟩ := h
  exact ⟨q, hr, (List.nodup_append.1 hn).2.1, fun b off hm => hc b off (List.mem_append_right _ hm)⟩
theorem gTab : Tryd.prog.globalNamed "internal/strconv.uint64pow10" = some 3 := by kernel_rfl
theorem gTabTy : (Tryd.prog.globals[3]?).map (·.type) = some 158 := by kernel_rfl
theorem var_of_iface {rest : List (String × DataW Unit)} {W : World} {name nm : String} {D : DataW Unit} {g : Nat} {ms : Array (String × TypeId)} (hg : Tryd.prog.globalNamed name = some g) (hty : (Tryd.prog.globals[g]?).map (·.type) = some 91) (hi : Tryd.prog.underlying 91 = some (.interface ms)) (h : laidMet Tryd.prog ((name, .iface nm D) :: rest) W) : ∃ t p, W.var? Tryd.prog name = some #[.iface t p] := by
  obtain ⟨ps, ⟨g', t', cs, fuel, p, q, hg', ht', hvar, hd, _, _⟩, _⟩ := h
  obtain rfl := Option.some.inj (hg.symm.trans hg')
  obtain rfl := Option.some.inj (hty.symm.trans ht')
  obtain ⟨_, u, v, e, _, _⟩ := iface_of_trod hi hd
  obtain rfl : cs = #[.iface u v] := by rw [← Array.toArray_toList (xs := cs), e]
  exact ⟨u, v, hvar⟩
theorem gl_of_laid {W : World} (h : laidMetH Tryd.prog laid7 W) (hs : W.ShapedOpen Tryd.prog) : Gl W := by
  rw [MakeChecks.laidMetH_plain _ _ _ (by kernel_rfl)] at h
  have h3 := laid_tail (laid_tail h)
  have h5 := laid_tail (laid_tail h3)
  refine ⟨Lib.tabIs_of_head gTab gTabTy Tryd.underlying158 Tryd.underlying105 (by kernel_rfl) (by kernel_rfl) h3, ?_, ?_, ?_⟩
  · exact Go.Proofs.cell_of_shapedOpen_int (zero := #[.int .i64 0]) (t := 3) hs (of_decide_eq_true (by kernel_rfl)) (by kernel_rfl) rfl (by kernel_rfl) (by kernel_rfl) Tryd.underlying3
  · exact var_of_iface (g := 1) (by kernel_rfl) (by kernel_rfl) Tryd.underlying91 (laid_tail h5)
  · exact var_of_iface (g := 2) (by kernel_rfl) (by kernel_rfl) Tryd.underlying91 h5
theorem witness_row_shaped {H : Type} {enc : TypeId × Value → H} {C : Checked} {os : Os} {f : FuncId} {fn : Func} {s : OpenSpec} {conds : List PathCond} {apart : Bool} {laid : List (String × DataW Unit)} (modest : Bool) (w0 : World) (args : Array Value) (hos : w0.os = os)
    (hsh : (w0.forCall (fun _ _ => 0) ⟨#[], args, []⟩).Shaped C.prog)
    (hok : Input.okWideB C.prog (w0.forCall (fun _ _ => 0) ⟨#[], args, []⟩) f ⟨#[], args, []⟩ = true)
    (hrow : s.preRow enc C.prog fn conds apart laid (w0.forCall (fun _ _ => 0) ⟨#[], args, []⟩).memory args) :
    ∃ (w : World) (tape : Tape) (i : Input), w.os = os ∧ (w.forCall tape i).Shaped C.prog ∧ i.vars = [] ∧ Input.okWide C.prog (w.forCall tape i) .any w.heap.size f i ∧
      s.preRow enc C.prog fn conds apart laid (w.forCall tape i).memory i.args ∧ ({ modest := modest } : Assume).holds C.prog (lone (Frame.enter C.prog f i.args .normal) [] (w.forCall tape i)) :=
  ⟨w0, fun _ _ => 0, ⟨#[], args, []⟩, hos, hsh, (Input.okWide_of_okWideB (base := 0) hok).1, (Input.okWide_of_okWideB hok).2, hrow, by
    simp only [Assume.holds]
    exact ⟨by simp, by simp, fun _ => Modest.zero, by simp, by simp⟩⟩
noncomputable def laidWorld (os : Os) : World := World.laidAll Tryd.prog os laid7
theorem laid_met (os : Os) (args : Array Value) : laidMet Tryd.prog laid7 ((laidWorld os).forCall (fun _ _ => 0) ⟨#[], args, []⟩).memory :=
  laidMet_laidAll _ (by kernel_rfl) (by kernel_rfl)
theorem ts2 {H : Type} {enc : TypeId × Value → H} {P : Program} {w : World} {base : Nat} {spare : Nat → Bool} {held : Bool} {t : TypeId} {f0 f1 : Field} {fuel : Nat} {cs : List Value} {x : DataW H × List MemPlace} (ht : P.underlying t = some (.struct #[f0, f1])) (h : DataW.trod enc P w base spare held fuel t cs = some x) :
    ∃ y0 y1 n, cs.length = P.cellsOf t ∧ x.1 = .agg [y0.1, y1.1] ∧ DataW.trod enc P w base spare held n f0.type ((cs.drop f0.offset).take (P.cellsOf f0.type)) = some y0 ∧
      DataW.trod enc P w base spare held n f1.type ((cs.drop f1.offset).take (P.cellsOf f1.type)) = some y1 := by
  obtain ⟨xs, n, _, rfl, hl, hlen, hf⟩ := DataW.trod_struct ht h
  match xs, hlen with
  | [y0, y1], _ => exact ⟨y0, y1, n, hl, rfl, by simpa using hf 0 f0 rfl, by simpa using hf 1 f1 rfl⟩
theorem cells3_of : Tryd.prog.cellsOf 3 = 1 := by kernel_rfl
theorem cells22_of : Tryd.prog.cellsOf 22 = 1 := by kernel_rfl
theorem cells24_of : Tryd.prog.cellsOf 24 = 2 := by kernel_rfl
theorem cells25_of : Tryd.prog.cellsOf 25 = 6 := by kernel_rfl
theorem cells31_of : Tryd.prog.cellsOf 31 = 2 := by kernel_rfl
theorem oU32 {H : Type} {enc : TypeId × Value → H} {w : World} {base : Nat} {spare : Nat → Bool} {held : Bool} {n : Nat} {cs : List Value} {x : DataW H × List MemPlace} (h : DataW.trod enc Tryd.prog w base spare held n 22 cs = some x) : ∃ a : Nat, a < 4294967296 ∧ cs = [.int .u32 a] := by
  obtain ⟨a, u, _, hw⟩ := DataW.trod_int Tryd.underlying22 h
  have hb := bounds_u32 hw
  obtain ⟨b, rfl⟩ := Int.eq_ofNat_of_zero_le hb.1
  exact ⟨b, by omega, u⟩
theorem oI64 {H : Type} {enc : TypeId × Value → H} {w : World} {base : Nat} {spare : Nat → Bool} {held : Bool} {n : Nat} {cs : List Value} {x : DataW H × List MemPlace} (h : DataW.trod enc Tryd.prog w base spare held n 3 cs = some x) : ∃ a : Int, (-9223372036854775808 ≤ a ∧ a ≤ 9223372036854775807) ∧ cs = [.int .i64 a] := by
  obtain ⟨a, u, _, hw⟩ := DataW.trod_int Tryd.underlying3 h
  exact ⟨a, bounds_i64 hw, u⟩
set_option maxRecDepth 100000 in
theorem open24 {H : Type} {enc : TypeId × Value → H} {w : World} {base : Nat} {spare : Nat → Bool} {held : Bool} {n : Nat} {cs : List Value} {x : DataW H × List MemPlace} (h : DataW.trod enc Tryd.prog w base spare held n 24 cs = some x) :
    ∃ (b : Nat) (m : Int), b < 4294967296 ∧ (-9223372036854775808 ≤ m ∧ m ≤ 9223372036854775807) ∧ cs = [.int .u32 b, .int .i64 m] := by
  obtain ⟨y0, y1, m, hl, _, e0, e1⟩ := ts2 Tryd.underlying24 h
  rw [cells24_of] at hl
  match cs, hl with
  | [c0, c1], _ =>
    simp [cells3_of, cells22_of] at e0 e1
    obtain ⟨a0, h0, u0⟩ := oU32 e0
    obtain ⟨a1, h1, u1⟩ := oI64 e1
    simp at u0 u1
    subst u0 u1
    exact ⟨a0, a1, h0, h1, rfl⟩
set_option maxRecDepth 100000 in
theorem open31 {H : Type} {enc : TypeId × Value → H} {w : World} {base : Nat} {spare : Nat → Bool} {held : Bool} {n : Nat} {cs : List Value} {x : DataW H × List MemPlace} (h : DataW.trod enc Tryd.prog w base spare held n 31 cs = some x) :
    ∃ (b : Nat) (m : Int), b < 4294967296 ∧ (-9223372036854775808 ≤ m ∧ m ≤ 9223372036854775807) ∧ cs = [.int .u32 b, .int .i64 m] := by
  obtain ⟨y0, y1, m, hl, _, e0, e1⟩ := ts2 Tryd.underlying31 h
  rw [cells31_of] at hl
  match cs, hl with
  | [c0, c1], _ =>
    simp [cells3_of, cells22_of] at e0 e1
    obtain ⟨a0, h0, u0⟩ := oU32 e0
    obtain ⟨a1, h1, u1⟩ := oI64 e1
    simp at u0 u1
    subst u0 u1
    exact ⟨a0, a1, h0, h1, rfl⟩
set_option maxRecDepth 100000 in
theorem open25 {H : Type} {enc : TypeId × Value → H} {w : World} {base : Nat} {spare : Nat → Bool} {held : Bool} {n : Nat} {cs : List Value} {x : DataW H × List MemPlace} (h : DataW.trod enc Tryd.prog w base spare held n 25 cs = some x) :
    ∃ (p0 : Nat) (n0 : Int) (p1 : Nat) (n1 : Int) (p2 : Nat) (n2 : Int), p0 < 4294967296 ∧ p1 < 4294967296 ∧ p2 < 4294967296 ∧ cs = [.int .u32 p0, .int .i64 n0, .int .u32 p1, .int .i64 n1, .int .u32 p2, .int .i64 n2] := by
  obtain ⟨xs, m, _, _, hl, hlen, hel⟩ := DataW.trod_array Tryd.underlying25 h
  rw [cells25_of] at hl
  match cs, hl, xs, hlen with
  | [c0, c1, c2, c3, c4, c5], _, [y0, y1, y2], _ =>
    have e0 := hel 0 (by omega)
    have e1 := hel 1 (by omega)
    have e2 := hel 2 (by omega)
    simp [cells24_of] at e0 e1 e2
    obtain ⟨b0, m0, h0, _, u0⟩ := open24 e0
    obtain ⟨b1, m1, h1, _, u1⟩ := open24 e1
    obtain ⟨b2, m2, h2, _, u2⟩ := open24 e2
    simp at u0 u1 u2
    obtain ⟨rfl, rfl⟩ := u0
    obtain ⟨rfl, rfl⟩ := u1
    obtain ⟨rfl, rfl⟩ := u2
    exact ⟨b0, m0, b1, m1, b2, m2, h0, h1, h2, rfl⟩
theorem okWide_array {P : Program} {w : World} {r : Reach} {base : Nat} {t : TypeId} {v : Value} {n : Nat} {e : TypeId} (ht : P.underlying t = some (.array n e)) (h : Value.okWide P w r base t v) : ∃ cs, v = .agg cs ∧ cs.size = P.cellsOf t := by
  simp only [Value.okWide, ht] at h
  obtain ⟨cs, h1, h2, _⟩ := h
  exact ⟨cs, h1, h2⟩
end Go.Proofs.YtagpkphehkfjgaaDoor.Px
