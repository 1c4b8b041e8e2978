/- QueryWires, walked: for every input. -/
import Derived.Test.YthimnnnfgangbaaDoorQrO
set_option linter.unusedVariables false
set_option linter.unusedSimpArgs false
namespace Go.Proofs.YthimnnnfgangbaaDoor.Qr
open Go.RowKit Go.Proofs.YthimnnnfgangbaaDoorW.PrintWords Go.Proofs.YthimnnnfgangbaaDoorW.PrintLast Go.Proofs.YthimnnnfgangbaaDoorW.PrintMore
theorem keep_five {w1 W W' : World} {a0 a1 a2 a3 a4 : Addr} {v0 v1 v2 v3 v4 : Value} (h : (W.cell? a0 = some v0 ∧ W.cell? a1 = some v1 ∧ W.cell? a2 = some v2 ∧ W.cell? a3 = some v3 ∧ W.cell? a4 = some v4) ∧ Aside0 (Below w1.heap.size w1 W)) (hb : Below W.heap.size W W') : (W'.cell? a0 = some v0 ∧ W'.cell? a1 = some v1 ∧ W'.cell? a2 = some v2 ∧ W'.cell? a3 = some v3 ∧ W'.cell? a4 = some v4) ∧ Aside0 (Below w1.heap.size w1 W') :=
  ⟨⟨pw_cell_below hb h.1.1, pw_cell_below hb h.1.2.1, pw_cell_below hb h.1.2.2.1, pw_cell_below hb h.1.2.2.2.1, pw_cell_below hb h.1.2.2.2.2⟩, ⟨below_step h.2.out hb⟩⟩
theorem tab_and {p : Prop} {w1 W : World} (ht : Tab w1) (h : p ∧ Aside0 (Below w1.heap.size w1 W)) : Tab W := tab_below ht h.2.out
set_option maxHeartbeats 3200000 in
set_option maxRecDepth 100000 in
theorem wires_any (a b : Int) (up : Bool) (ca cb : Int) (w : World) (ht : Tab w) (ha : i64 a) (hb : i64 b) (hca : i64 ca) (hcb : i64 cb) :
    Calls Tryd.prog 4 #[.agg #[.int .i64 a, .int .i64 b, .bool up, .int .i64 ca, .int .i64 cb]] w fun e w' => e = .returned (.bool true) ∧ Below w.heap.size w w' := by
  have HT := Aside0.mk ht
  have IA := Aside0.mk ha
  have IB := Aside0.mk hb
  have ICA := Aside0.mk hca
  have ICB := Aside0.mk hcb
  clear ht ha hb hca hcb
  go_enter Tryd.func4, Tryd.ntmps4
  go_upto_region 1 with (fail)
  obtain ⟨gx, hgx⟩ : ∃ gx, w.heap.size = gx := ⟨_, rfl⟩
  rw [hgx]
  refine wp_world (fun W => Aside0 (W.heap[gx]? = some (.cells #[.int .i64 a, .int .i64 b, .bool up, .int .i64 ca, .int .i64 cb] 36 (0, 0))) ∧ Aside0 (Below w.heap.size w W)) ⟨⟨by subst hgx; exact blk_new w _⟩, ⟨below_alloc (Below.refl _ _) _⟩⟩ ?_
  clear hgx
  rintro w1 ⟨HX, HB⟩
  have k0 := blk_cell HX.out 0
  have k1 := blk_cell HX.out 1
  have k2 := blk_cell HX.out 2
  have k3 := blk_cell HX.out 3
  have k4 := blk_cell HX.out 4
  simp at k0 k1 k2 k3 k4
  have HT1 := Aside0.mk (tab_below HT.out HB.out)
  go_region_held3 (fun W => (W.cell? ⟨gx, 0, none⟩ = some (.int .i64 a) ∧ W.cell? ⟨gx, 1, none⟩ = some (.int .i64 b) ∧ W.cell? ⟨gx, 2, none⟩ = some (.bool up) ∧ W.cell? ⟨gx, 3, none⟩ = some (.int .i64 ca) ∧ W.cell? ⟨gx, 4, none⟩ = some (.int .i64 cb)) ∧ Aside0 (Below w1.heap.size w1 W))
    ((first | (with_reducible assumption) | exact ⟨⟨k0, k1, k2, k3, k4⟩, ⟨below_drew (Below.refl _ _)⟩⟩ | exact ⟨⟨k0, k1, k2, k3, k4⟩, ⟨Below.refl _ _⟩⟩))
    (first
      | (go_at_call 15; (with_reducible refine (wire_calls a b up ca cb _ (tab_and HT1.out (by with_reducible assumption)) IA.out IB.out ICA.out ICB.out).mono ?_); rintro e w' ⟨rfl, hb⟩; have hS' := keep_five (by with_reducible assumption) hb)
      | (go_at_call 16; (with_reducible refine (rwire_calls2 a b up ca cb _ IA.out IB.out ICA.out ICB.out).mono ?_); rintro e w' ⟨rfl, hb⟩; have hS' := keep_five (by with_reducible assumption) hb)
      | (go_at_call 10; (with_reducible refine (awake_calls _ (tab_and HT1.out (by with_reducible assumption))).mono ?_); rintro e w' ⟨rfl, hb⟩; have hS' := keep_five (by with_reducible assumption) hb))
  have HB2 := Aside0.mk (below_step HB.out hS'.2.out)
  clear hS' k0 k1 k2 k3 k4 HX HB
  go_wp2
  go_ret
  exact ⟨rfl, HB2.out⟩
end Go.Proofs.YthimnnnfgangbaaDoor.Qr
