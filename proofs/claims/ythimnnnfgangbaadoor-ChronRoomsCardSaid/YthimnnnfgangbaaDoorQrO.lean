/- awake of the query's laws, and QueryWires, walked: for every input. -/
import Derived.Test.YthimnnnfgangbaaDoorQrN
set_option linter.unusedVariables false
set_option linter.unusedSimpArgs false
namespace Go.Proofs.YthimnnnfgangbaaDoor.Qr
open Go.RowKit Go.Proofs.YthimnnnfgangbaaDoorW.PrintWords Go.Proofs.YthimnnnfgangbaaDoorW.PrintLast Go.Proofs.YthimnnnfgangbaaDoorW.PrintMore
theorem it_small {u : Nat} (h : u < 10) : it (u : Int) = [UInt8.ofNat (48 + u)] := by rw [show it (u : Int) = dd u from Lib.itoa_nonneg u, dd_small h]
def x27 : S27 := ⟨0, zI, [], [], []⟩
theorem line27 : lineL x27 = [111, 107] := by decide
theorem wire27 : wireL 1 2 true 3 4 = [119, 105, 114, 101, 32, 49, 32, 50, 32, 117, 112, 32, 51, 32, 52] := by
  unfold wireL nw
  simp only [List.foldl_cons, List.foldl_nil]
  rw [show it 1 = [49] from it_small (u := 1) (by decide), show it 2 = [50] from it_small (u := 2) (by decide), show it 3 = [51] from it_small (u := 3) (by decide), show it 4 = [52] from it_small (u := 4) (by decide)]
  decide
theorem C_nil {α : Type} (d : Kd α) (w : World) : Kd.C d w none 0 [] := ⟨rfl, by omega, fun h => by omega⟩
theorem line0 (w : World) (ht : Tab w) : Calls Tryd.prog 11 #[.agg #[.int .i64 0, .int .i64 0, .slice none 0 0, .slice none 0 0, .slice none 0 0]] w fun e w' => e = .returned (.string ⟨#[111, 107]⟩) ∧ Below w.heap.size w w' :=
  (line_calls x27 none none none 0 0 0 w ht (C_nil _ w) (C_nil _ w) (C_nil _ w) (by decide) (by decide) (by decide) (fun y h => by cases h) (by rw [line27]; decide)).mono (by
    rintro e w' ⟨he, hb⟩
    rw [line27] at he
    exact ⟨he, hb⟩)
theorem wire0 (w : World) (ht : Tab w) : Calls Tryd.prog 15 #[.agg #[.int .i64 1, .int .i64 2, .bool true, .int .i64 3, .int .i64 4]] w fun e w' => e = .returned (.string ⟨#[119, 105, 114, 101, 32, 49, 32, 50, 32, 117, 112, 32, 51, 32, 52]⟩) ∧ Below w.heap.size w w' :=
  (wire_calls 1 2 true 3 4 w ht ⟨by decide, by decide⟩ ⟨by decide, by decide⟩ ⟨by decide, by decide⟩ ⟨by decide, by decide⟩).mono (by
    rintro e w' ⟨he, hb⟩
    rw [wire27] at he
    exact ⟨he, hb⟩)
set_option maxHeartbeats 1600000 in
set_option maxRecDepth 100000 in
theorem awake_calls (w : World) (ht : Tab w) : Calls Tryd.prog 10 #[] w fun e w' => e = .returned (.bool true) ∧ Below w.heap.size w w' := by
  have HT := Aside0.mk ht
  clear ht
  go_enter Tryd.func10, Tryd.ntmps10
  go_wp2_with fail
  refine (line0 w HT.out).mono ?_
  rintro e w1 ⟨rfl, hb⟩
  have HB := Aside0.mk hb
  clear hb
  go_wp2_with fail
  refine (wire0 w1 (tab_below HT.out HB.out)).mono ?_
  rintro e w2 ⟨rfl, hb⟩
  have HB2 := Aside0.mk (below_step HB.out hb)
  clear hb
  go_wp2
  go_ret
  exact ⟨rfl, HB2.out⟩
theorem rwire_calls2 (a b : Int) (up : Bool) (ca cb : Int) (w : World) (ha : i64 a) (hb : i64 b) (hca : i64 ca) (hcb : i64 cb) :
    Calls Tryd.prog 16 #[.agg #[.int .i64 a, .int .i64 b, .bool up, .int .i64 ca, .int .i64 cb]] w fun e w' => e = .returned (.string ⟨(wireL a b up ca cb).toArray⟩) ∧ Below w.heap.size w w' := by
  rw [wire_same]
  exact rwire_calls a b up ca cb w ha hb hca hcb
/-- A row of cells is kept. -/
theorem keep_row {w1 W W' : World} {g T : Nat} {X : Array Value} (h : Aside0 (W.heap[g]? = some (.cells X T (0, 0))) ∧ Aside0 (Below w1.heap.size w1 W)) (hb : Below W.heap.size W W') : Aside0 (W'.heap[g]? = some (.cells X T (0, 0))) ∧ Aside0 (Below w1.heap.size w1 W') :=
  ⟨⟨blk_below h.1.out hb⟩, ⟨below_step h.2.out hb⟩⟩
end Go.Proofs.YthimnnnfgangbaaDoor.Qr
