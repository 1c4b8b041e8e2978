/- Contract of the reference's Wire, for every input. -/
import Derived.Test.YthimnnnfgangbaaDoorQrI
set_option linter.unusedVariables false
set_option linter.unusedSimpArgs false
namespace Go.Proofs.YthimnnnfgangbaaDoor.Qr
open Go.RowKit Go.Proofs.YthimnnnfgangbaaDoorW.PrintWords Go.Proofs.YthimnnnfgangbaaDoorW.PrintLast Go.Proofs.YthimnnnfgangbaaDoorW.PrintMore
/-- The reference's line of a cable. -/
def rwireL (a b : Int) (up : Bool) (ca cb : Int) : List UInt8 := [119, 105, 114, 101, 32] ++ it a ++ [32] ++ it b ++ (if up = true then [32, 117, 112, 32] else [32, 100, 111, 119, 110, 32]) ++ it ca ++ [32] ++ it cb
theorem digits_i (n : Int) (h : i64 n) (w : World) : Calls Tryd.prog 41 #[.int .i64 n] w fun e w' => e = .returned (.string ⟨(it n).toArray⟩) ∧ Below w.heap.size w w' := digits_calls n h.1 h.2 w
theorem keep_two {w1 W W' : World} {a0 a1 : Addr} {v0 v1 : Value} (h : (W.cell? a0 = some v0 ∧ W.cell? a1 = some v1) ∧ Aside0 (Below w1.heap.size w1 W)) (hb : Below W.heap.size W W') : (W'.cell? a0 = some v0 ∧ W'.cell? a1 = some v1) ∧ Aside0 (Below w1.heap.size w1 W') :=
  ⟨⟨pw_cell_below hb h.1.1, pw_cell_below hb h.1.2⟩, ⟨below_step h.2.out hb⟩⟩

set_option maxHeartbeats 3200000 in
set_option maxRecDepth 100000 in
theorem rwire_up (a b ca cb : Int) (w : World) (ha : i64 a) (hb : i64 b) (hca : i64 ca) (hcb : i64 cb) :
    Calls Tryd.prog 16 #[.agg #[.int .i64 a, .int .i64 b, .bool true, .int .i64 ca, .int .i64 cb]] w fun e w' => e = .returned (.string ⟨(rwireL a b true ca cb).toArray⟩) ∧ Below w.heap.size w w' := by
  have la := it_len ha.1 ha.2
  have lb := it_len hb.1 hb.2
  have lca := it_len hca.1 hca.2
  have lcb := it_len hcb.1 hcb.2
  have h1 : ¬ 9223372036854775807 < 5 + (it a).length := by omega
  have h2 : ¬ 9223372036854775807 < 5 + (it a).length + 1 := by omega
  have h3 : ¬ 9223372036854775807 < 5 + (it a).length + 1 + (it b).length := by omega
  have h4 : ¬ 9223372036854775807 < 5 + (it a).length + 1 + (it b).length + 4 := by omega
  have h5 : ¬ 9223372036854775807 < 5 + (it a).length + 1 + (it b).length + 4 + (it ca).length := by omega
  have h6 : ¬ 9223372036854775807 < 5 + (it a).length + 1 + (it b).length + 4 + (it ca).length + 1 := by omega
  have h7 : ¬ 9223372036854775807 < 5 + (it a).length + 1 + (it b).length + 4 + (it ca).length + 1 + (it cb).length := by omega
  have IA := Aside0.mk ha
  have IB := Aside0.mk hb
  have ICA := Aside0.mk hca
  have ICB := Aside0.mk hcb
  clear la lb lca lcb ha hb hca hcb
  go_enter Tryd.func16, Tryd.ntmps16
  go_upto_region 1 with (fail)
  obtain ⟨gx, hgx⟩ : ∃ gx, w.heap.size = gx := ⟨_, rfl⟩
  rw [hgx]
  refine wp_world (fun W => Aside0 (W.heap[gx]? = some (.cells #[.int .i64 a, .int .i64 b, .bool true, .int .i64 ca, .int .i64 cb] 36 (0, 0))) ∧ Aside0 (Below w.heap.size w W)) ⟨⟨by subst hgx; exact blk_new w _⟩, ⟨below_alloc (Below.refl _ _) _⟩⟩ ?_
  clear hgx
  rintro w1 ⟨HX, HB⟩
  have k0 := blk_cell HX.out 0
  have k1 := blk_cell HX.out 1
  simp at k0 k1
  go_region_held3 (fun W => (W.cell? ⟨gx, 0, none⟩ = some (.int .i64 a) ∧ W.cell? ⟨gx, 1, none⟩ = some (.int .i64 b)) ∧ Aside0 (Below w1.heap.size w1 W))
    ((first | (with_reducible assumption) | exact ⟨⟨k0, k1⟩, ⟨below_drew (Below.refl _ _)⟩⟩ | exact ⟨⟨k0, k1⟩, ⟨Below.refl _ _⟩⟩))
    (first
      | (go_at_call 41; (with_reducible refine (digits_i a IA.out _).mono ?_); rintro e w' ⟨rfl, hb⟩; have hS' := keep_two (by with_reducible assumption) hb)
      | (go_at_call 41; (with_reducible refine (digits_i b IB.out _).mono ?_); rintro e w' ⟨rfl, hb⟩; have hS' := keep_two (by with_reducible assumption) hb))
  have HB2 := Aside0.mk (below_step HB.out hS'.2.out)
  have HX2 := Aside0.mk (blk_below HX.out hS'.2.out)
  clear hS' k0 k1 HX HB
  have k2 := blk_cell HX2.out 2
  simp at k2
  go_upto_region 5 with (fail)
  clear k2
  have k3 := blk_cell HX2.out 3
  have k4 := blk_cell HX2.out 4
  simp at k3 k4
  go_region_held3 (fun W => (W.cell? ⟨gx, 3, none⟩ = some (.int .i64 ca) ∧ W.cell? ⟨gx, 4, none⟩ = some (.int .i64 cb)) ∧ Aside0 (Below w'.heap.size w' W))
    ((first | (with_reducible assumption) | exact ⟨⟨k3, k4⟩, ⟨below_drew (Below.refl _ _)⟩⟩ | exact ⟨⟨k3, k4⟩, ⟨Below.refl _ _⟩⟩))
    (first
      | (go_at_call 41; (with_reducible refine (digits_i ca ICA.out _).mono ?_); rintro e w2 ⟨rfl, hb⟩; have hS' := keep_two (by with_reducible assumption) hb)
      | (go_at_call 41; (with_reducible refine (digits_i cb ICB.out _).mono ?_); rintro e w2 ⟨rfl, hb⟩; have hS' := keep_two (by with_reducible assumption) hb))
  have HB3 := Aside0.mk (below_step HB2.out hS'.2.out)
  clear hS'
  go_wp2
  go_ret
  exact ⟨by simp only [cat_bytes]; rfl, HB3.out⟩
set_option maxHeartbeats 3200000 in
set_option maxRecDepth 100000 in
theorem rwire_down (a b ca cb : Int) (w : World) (ha : i64 a) (hb : i64 b) (hca : i64 ca) (hcb : i64 cb) :
    Calls Tryd.prog 16 #[.agg #[.int .i64 a, .int .i64 b, .bool false, .int .i64 ca, .int .i64 cb]] w fun e w' => e = .returned (.string ⟨(rwireL a b false ca cb).toArray⟩) ∧ Below w.heap.size w w' := by
  have la := it_len ha.1 ha.2
  have lb := it_len hb.1 hb.2
  have lca := it_len hca.1 hca.2
  have lcb := it_len hcb.1 hcb.2
  have h1 : ¬ 9223372036854775807 < 5 + (it a).length := by omega
  have h2 : ¬ 9223372036854775807 < 5 + (it a).length + 1 := by omega
  have h3 : ¬ 9223372036854775807 < 5 + (it a).length + 1 + (it b).length := by omega
  have h4 : ¬ 9223372036854775807 < 5 + (it a).length + 1 + (it b).length + 6 := by omega
  have h5 : ¬ 9223372036854775807 < 5 + (it a).length + 1 + (it b).length + 6 + (it ca).length := by omega
  have h6 : ¬ 9223372036854775807 < 5 + (it a).length + 1 + (it b).length + 6 + (it ca).length + 1 := by omega
  have h7 : ¬ 9223372036854775807 < 5 + (it a).length + 1 + (it b).length + 6 + (it ca).length + 1 + (it cb).length := by omega
  have IA := Aside0.mk ha
  have IB := Aside0.mk hb
  have ICA := Aside0.mk hca
  have ICB := Aside0.mk hcb
  clear la lb lca lcb ha hb hca hcb
  go_enter Tryd.func16, Tryd.ntmps16
  go_upto_region 1 with (fail)
  obtain ⟨gx, hgx⟩ : ∃ gx, w.heap.size = gx := ⟨_, rfl⟩
  rw [hgx]
  refine wp_world (fun W => Aside0 (W.heap[gx]? = some (.cells #[.int .i64 a, .int .i64 b, .bool false, .int .i64 ca, .int .i64 cb] 36 (0, 0))) ∧ Aside0 (Below w.heap.size w W)) ⟨⟨by subst hgx; exact blk_new w _⟩, ⟨below_alloc (Below.refl _ _) _⟩⟩ ?_
  clear hgx
  rintro w1 ⟨HX, HB⟩
  have k0 := blk_cell HX.out 0
  have k1 := blk_cell HX.out 1
  simp at k0 k1
  go_region_held3 (fun W => (W.cell? ⟨gx, 0, none⟩ = some (.int .i64 a) ∧ W.cell? ⟨gx, 1, none⟩ = some (.int .i64 b)) ∧ Aside0 (Below w1.heap.size w1 W))
    ((first | (with_reducible assumption) | exact ⟨⟨k0, k1⟩, ⟨below_drew (Below.refl _ _)⟩⟩ | exact ⟨⟨k0, k1⟩, ⟨Below.refl _ _⟩⟩))
    (first
      | (go_at_call 41; (with_reducible refine (digits_i a IA.out _).mono ?_); rintro e w' ⟨rfl, hb⟩; have hS' := keep_two (by with_reducible assumption) hb)
      | (go_at_call 41; (with_reducible refine (digits_i b IB.out _).mono ?_); rintro e w' ⟨rfl, hb⟩; have hS' := keep_two (by with_reducible assumption) hb))
  have HB2 := Aside0.mk (below_step HB.out hS'.2.out)
  have HX2 := Aside0.mk (blk_below HX.out hS'.2.out)
  clear hS' k0 k1 HX HB
  have k2 := blk_cell HX2.out 2
  simp at k2
  go_upto_region 5 with (fail)
  clear k2
  have k3 := blk_cell HX2.out 3
  have k4 := blk_cell HX2.out 4
  simp at k3 k4
  go_region_held3 (fun W => (W.cell? ⟨gx, 3, none⟩ = some (.int .i64 ca) ∧ W.cell? ⟨gx, 4, none⟩ = some (.int .i64 cb)) ∧ Aside0 (Below w'.heap.size w' W))
    ((first | (with_reducible assumption) | exact ⟨⟨k3, k4⟩, ⟨below_drew (Below.refl _ _)⟩⟩ | exact ⟨⟨k3, k4⟩, ⟨Below.refl _ _⟩⟩))
    (first
      | (go_at_call 41; (with_reducible refine (digits_i ca ICA.out _).mono ?_); rintro e w2 ⟨rfl, hb⟩; have hS' := keep_two (by with_reducible assumption) hb)
      | (go_at_call 41; (with_reducible refine (digits_i cb ICB.out _).mono ?_); rintro e w2 ⟨rfl, hb⟩; have hS' := keep_two (by with_reducible assumption) hb))
  have HB3 := Aside0.mk (below_step HB2.out hS'.2.out)
  clear hS'
  go_wp2
  go_ret
  exact ⟨by simp only [cat_bytes]; rfl, HB3.out⟩
theorem rwire_calls (a b : Int) (up : Bool) (ca cb : Int) (w : World) (ha : i64 a) (hb : i64 b) (hca : i64 ca) (hcb : i64 cb) :
    Calls Tryd.prog 16 #[.agg #[.int .i64 a, .int .i64 b, .bool up, .int .i64 ca, .int .i64 cb]] w fun e w' => e = .returned (.string ⟨(rwireL a b up ca cb).toArray⟩) ∧ Below w.heap.size w w' := by
  cases up
  · exact rwire_down a b ca cb w ha hb hca hcb
  · exact rwire_up a b ca cb w ha hb hca hcb
theorem wire_same (a b : Int) (up : Bool) (ca cb : Int) : wireL a b up ca cb = rwireL a b up ca cb := by
  have h1 : wd [] [119, 105, 114, 101] = [119, 105, 114, 101] := rfl
  have h2 : ∀ (l : List UInt8) (x : List UInt8), l ≠ [] → wd l x = l ++ 32 :: x := fun l x h => by unfold wd; rw [if_neg h]
  unfold wireL rwireL nw
  rw [h1]
  simp only [List.foldl_cons, List.foldl_nil]
  rw [h2 [119, 105, 114, 101] (it a) (by simp), h2 _ (it b) (by simp)]
  cases up
  · rw [if_neg (by decide), if_neg (by decide), h2 _ [100, 111, 119, 110] (by simp), h2 _ (it ca) (by simp), h2 _ (it cb) (by simp)]
    simp
  · rw [if_pos rfl, if_pos rfl, h2 _ [117, 112] (by simp), h2 _ (it ca) (by simp), h2 _ (it cb) (by simp)]
    simp
end Go.Proofs.YthimnnnfgangbaaDoor.Qr
