/- Contracts of query.Wire and of the reference's Wire, for every input. -/
import Derived.Test.YthimnnnfgangbaaDoorQrH
import Derived.BigQuiet
set_option linter.unusedVariables false
set_option linter.unusedSimpArgs false
namespace Go.Proofs.YthimnnnfgangbaaDoor.Qr
open Go.RowKit Go.Proofs.YthimnnnfgangbaaDoorW.PrintWords Go.Proofs.YthimnnnfgangbaaDoorW.PrintLast Go.Proofs.YthimnnnfgangbaaDoorW.PrintMore

/-- The world at this place, known by these facts alone. -/
theorem wp_world {P : Program} {C : Code} {Q : Exit → Act → World → Prop} {a : Act} {W : World} (F : World → Prop) (hF : F W) (h : ∀ W', F W' → C.wp P Q a W') : C.wp P Q a W := h W hF
theorem LN.fresh {B : Nat} {w : World} (hB : B ≤ w.heap.size) : LN B w.heap.size [] (w.alloc (.cells #[.pointer none, .slice none 0 0] 80)) :=
  .inl ⟨hB, .slice none 0 0, blk_new w _, own_nil _ _ _ _, by simp [Value.ownBlock]⟩
/-- A cable's line. -/
def wireL (a b : Int) (up : Bool) (ca cb : Int) : List UInt8 := nw (wd (nw (wd [] [119, 105, 114, 101]) [a, b]) (if up = true then [117, 112] else [100, 111, 119, 110])) [ca, cb]
theorem wd_ne (l : List UInt8) {s : List UInt8} (h : s ≠ []) : wd l s ≠ [] := by unfold wd; split <;> simp [h]
theorem it_ne (n : Int) : it n ≠ [] := by
  unfold it Lib.itoa
  split
  · simp
  · intro h
    have := Lib.decDigits_length n.toNat
    rw [h] at this
    unfold Lib.nDigits at this
    simp at this
    split at this <;> omega
theorem nw_ne {l : List UInt8} {ns : List Int} (h : l ≠ []) : nw l ns ≠ [] := by
  induction ns generalizing l with
  | nil => exact h
  | cons n ns ih => exact ih (wd_ne l (it_ne n))
theorem two_i64 {a b : Int} (ha : i64 a) (hb : i64 b) : ∀ n ∈ [a, b], i64 n := by
  intro n hn
  simp at hn
  rcases hn with rfl | rfl
  · exact ha
  · exact hb
set_option maxHeartbeats 1600000 in
set_option maxRecDepth 100000 in
theorem wire_calls (a b : Int) (up : Bool) (ca cb : Int) (w : World) (ht : Tab w) (ha : i64 a) (hb : i64 b) (hca : i64 ca) (hcb : i64 cb) :
    Calls Tryd.prog 15 #[.agg #[.int .i64 a, .int .i64 b, .bool up, .int .i64 ca, .int .i64 cb]] w fun e w' => e = .returned (.string ⟨(wireL a b up ca cb).toArray⟩) ∧ Below w.heap.size w w' := by
  have HT := Aside0.mk ht
  have HT0 := Aside0.mk (tab_pos ht)
  have H1 := Aside0.mk (two_i64 ha hb)
  have H2 := Aside0.mk (two_i64 hca hcb)
  clear ht ha hb hca hcb
  go_enter Tryd.func15, Tryd.ntmps15
  go_upto_region 2 with (fail)
  obtain ⟨gx, hgx⟩ : ∃ gx, w.heap.size = gx := ⟨_, rfl⟩
  obtain ⟨b0, hb0⟩ : ∃ b0, w.heap.size + 1 = b0 := ⟨_, rfl⟩
  rw [hb0, hgx]
  refine wp_world (fun W => Aside0 (W.heap[gx]? = some (.cells #[.int .i64 a, .int .i64 b, .bool up, .int .i64 ca, .int .i64 cb] 36 (0, 0))) ∧ Aside0 (LN w.heap.size b0 [] W) ∧ Aside0 (Below w.heap.size w W)) ⟨⟨by subst hgx; exact blk_alloc (blk_new w _) _⟩, ⟨by
    have h := LN.fresh (B := w.heap.size) (w := w.alloc (.cells #[.int .i64 a, .int .i64 b, .bool up, .int .i64 ca, .int .i64 cb] 36)) (by simp)
    rw [show (w.alloc (.cells #[.int .i64 a, .int .i64 b, .bool up, .int .i64 ca, .int .i64 cb] 36)).heap.size = b0 by simp; omega] at h
    exact h⟩, ⟨below_alloc (below_alloc (Below.refl _ _) _) _⟩⟩ ?_
  clear hgx hb0
  rintro w1 ⟨HX, HL, HB⟩
  have HSZ := Aside0.mk HB.out.size
  go_wp2_with fail
  refine (word_calls w.heap.size b0 [] [119, 105, 114, 101] _ HL.out HSZ.out (by decide)).mono ?_
  rintro e w2 ⟨rfl, hl, hb, hf⟩
  have HX2 := Aside0.mk (hf gx _ 36 (by decide) (by decide) HX.out)
  have HL2 := Aside0.mk hl
  have HB2 := Aside0.mk (HB.out.trans hb)
  clear hl hb hf HX HL HB HSZ
  have k0 := blk_cell HX2.out 0
  have k1 := blk_cell HX2.out 1
  simp at k0 k1
  go_wp2_with fail
  refine (nums_calls w.heap.size b0 w2.heap.size (wd [] [119, 105, 114, 101]) [a, b] _ (HL2.out.below (below_alloc (Below.refl _ _) _)) (Nat.le_trans HB2.out.size (by simp)) (tab_keep HT.out (below_alloc HB2.out _) HT0.out) HT0.out (by simp [wd]) H1.out (blk_new w2 _) (by simp)).mono ?_
  rintro e w3 ⟨rfl, hl, hb, hf⟩
  have HX3 := Aside0.mk (hf gx _ 36 (by decide) (by decide) (blk_alloc HX2.out _))
  have HL3 := Aside0.mk hl
  have HB3 := Aside0.mk ((below_alloc HB2.out (.cells #[.int .i64 a, .int .i64 b] 3)).trans hb)
  have HN3 : Aside0 ((nw (wd [] [119, 105, 114, 101]) [a, b]).length ≤ 48) := ⟨by have := nw_length H1.out (wd [] [119, 105, 114, 101]); exact this⟩
  clear hl hb hf k0 k1 HX2 HL2 HB2
  have k2 := blk_cell HX3.out 2
  simp at k2
  have HNE : Aside0 (wireL a b up ca cb ≠ []) := ⟨nw_ne (wd_ne _ (by cases up <;> simp))⟩
  cases up
  · go_wp2_with fail
    refine (word_calls w.heap.size b0 _ [100, 111, 119, 110] _ HL3.out (Nat.le_trans HB3.out.size (Nat.le_refl _)) (by have := HN3.out; simp; omega)).mono ?_
    rintro e w4 ⟨rfl, hl, hb, hf⟩
    have HX4 := Aside0.mk (hf gx _ 36 (by decide) (by decide) HX3.out)
    have HL4 := Aside0.mk hl
    have HB4 := Aside0.mk (HB3.out.trans hb)
    have HN4 : Aside0 ((wd (nw (wd [] [119, 105, 114, 101]) [a, b]) [100, 111, 119, 110]).length ≤ 60) := ⟨by have := HN3.out; have := wd_length (nw (wd [] [119, 105, 114, 101]) [a, b]) [100, 111, 119, 110]; simp at this; omega⟩
    clear hl hb hf k2 HX3 HL3 HB3 HN3
    have k3 := blk_cell HX4.out 3
    have k4 := blk_cell HX4.out 4
    simp at k3 k4
    go_wp2_with fail
    refine (nums_calls w.heap.size b0 w4.heap.size _ [ca, cb] _ (HL4.out.below (below_alloc (Below.refl _ _) _)) (Nat.le_trans HB4.out.size (by simp)) (tab_keep HT.out (below_alloc HB4.out _) HT0.out) HT0.out (by have := HN4.out; simp; omega) H2.out (blk_new w4 _) (by simp)).mono ?_
    rintro e w5 ⟨rfl, hl, hb, hf⟩
    have HL5 := Aside0.mk hl
    have HB5 := Aside0.mk ((below_alloc HB4.out (.cells #[.int .i64 ca, .int .i64 cb] 3)).trans hb)
    clear hl hb hf k3 k4 HX4 HL4 HB4
    go_wp2_with fail
    refine (string_calls 80 w.heap.size b0 _ _ HL5.out HNE.out).mono ?_
    rintro e w6 ⟨rfl, hb⟩
    have HB6 := Aside0.mk (HB5.out.trans hb)
    clear hb
    go_wp2
    go_ret
    exact ⟨rfl, HB6.out⟩
  · go_wp2_with fail
    refine (word_calls w.heap.size b0 _ [117, 112] _ HL3.out (Nat.le_trans HB3.out.size (Nat.le_refl _)) (by have := HN3.out; simp; omega)).mono ?_
    rintro e w4 ⟨rfl, hl, hb, hf⟩
    have HX4 := Aside0.mk (hf gx _ 36 (by decide) (by decide) HX3.out)
    have HL4 := Aside0.mk hl
    have HB4 := Aside0.mk (HB3.out.trans hb)
    have HN4 : Aside0 ((wd (nw (wd [] [119, 105, 114, 101]) [a, b]) [117, 112]).length ≤ 60) := ⟨by have := HN3.out; have := wd_length (nw (wd [] [119, 105, 114, 101]) [a, b]) [117, 112]; simp at this; omega⟩
    clear hl hb hf k2 HX3 HL3 HB3 HN3
    have k3 := blk_cell HX4.out 3
    have k4 := blk_cell HX4.out 4
    simp at k3 k4
    go_wp2_with fail
    refine (nums_calls w.heap.size b0 w4.heap.size _ [ca, cb] _ (HL4.out.below (below_alloc (Below.refl _ _) _)) (Nat.le_trans HB4.out.size (by simp)) (tab_keep HT.out (below_alloc HB4.out _) HT0.out) HT0.out (by have := HN4.out; simp; omega) H2.out (blk_new w4 _) (by simp)).mono ?_
    rintro e w5 ⟨rfl, hl, hb, hf⟩
    have HL5 := Aside0.mk hl
    have HB5 := Aside0.mk ((below_alloc HB4.out (.cells #[.int .i64 ca, .int .i64 cb] 3)).trans hb)
    clear hl hb hf k3 k4 HX4 HL4 HB4
    go_wp2_with fail
    refine (string_calls 80 w.heap.size b0 _ _ HL5.out HNE.out).mono ?_
    rintro e w6 ⟨rfl, hb⟩
    have HB6 := Aside0.mk (HB5.out.trans hb)
    clear hb
    go_wp2
    go_ret
    exact ⟨rfl, HB6.out⟩
end Go.Proofs.YthimnnnfgangbaaDoor.Qr
