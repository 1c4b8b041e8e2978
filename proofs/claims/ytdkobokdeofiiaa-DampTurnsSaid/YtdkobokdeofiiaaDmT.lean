/- Any damp behind any time, and behind a flap then (DampTurns), walked: for every input. -/
import Derived.Test.YtdkobokdeofiiaaDmK
set_option linter.unusedVariables false
set_option linter.unusedSimpArgs false
namespace Go.Proofs.Ytdkobokdeofiiaa.Dm
open Go.RowKit Go.Proofs.YtdkobokdeofiiaaW.PrintWords Go.Proofs.YtdkobokdeofiiaaW.PrintLast Go.Proofs.YtdkobokdeofiiaaW.PrintMore
attribute [local go_sem high] eqA35

set_option maxHeartbeats 800000 in
set_option maxRecDepth 100000 in
theorem turns_no0 (a : Int) (b : Bool) (c t : Int) (w : World) (et : damp_Time.f a b c t = some (0, false, 0, 1)) (ef : damp_Flap.f a b c t = some (0, false, 0, 1)) (em : waymarkref54_May.f a b c = some false) (ec : damp_Check.f a b c = some 1)  :
    Calls Try.prog 5 #[.agg #[.int .i64 a, .bool b, .int .i64 c], .int .i64 t] w fun e w' => e = .returned (.bool true) ∧ Below w.heap.size w w' := by
  have ET := Aside0.mk et
  have EF := Aside0.mk ef
  have EM := Aside0.mk em
  have EC := Aside0.mk ec
  clear et ef em ec
  go_enter Try.func5, Try.ntmps5
  go_wp2_with fail
  refine (damp_Time.calls a b c t 0 false 0 1 _ ET.out).mono ?_
  rintro e w1 ⟨rfl, hb⟩
  have B1 := Aside0.mk (blk_below (blk_new w _) hb)
  have HB := Aside0.mk (below_step (below_alloc (Below.refl _ _) _) hb)
  clear hb
  have hz1 : w.heap.size < w1.heap.size := blk_lt B1.out
  have c0 := blk_cell B1.out 0
  have c1 := blk_cell B1.out 1
  have c2 := blk_cell B1.out 2
  simp at c0 c1 c2
  go_wp2_with fail
  refine (damp_Flap.calls a b c t 0 false 0 1 _ EF.out).mono ?_
  rintro e w2 ⟨rfl, hb⟩
  have HB2 := Aside0.mk (below_step (below_alloc HB.out _) hb)
  have B2 := Aside0.mk (blk_below (blk_alloc B1.out _) hb)
  have D2 := Aside0.mk (blk_below (blk_new w1 _) hb)
  clear hb B1 HB c0 c1 c2
  have hz2 : w1.heap.size < w2.heap.size := blk_lt D2.out
  have hz2' : w.heap.size < w2.heap.size := blk_lt B2.out
  have c0 := blk_cell B2.out 0
  have c1 := blk_cell B2.out 1
  have c2 := blk_cell B2.out 2
  simp at c0 c1 c2
  go_wp2_with fail
  refine (waymarkref54_May.calls a b c false _ EM.out).mono ?_
  rintro e w3 ⟨rfl, hb⟩
  have HB3 := Aside0.mk (below_step (below_alloc HB2.out _) hb)
  have B3 := Aside0.mk (blk_below (blk_alloc B2.out _) hb)
  have D3 := Aside0.mk (blk_below (blk_alloc D2.out _) hb)
  have F3 := Aside0.mk (blk_below (blk_new w2 _) hb)
  clear hb B2 D2 HB2 c0 c1 c2
  have hz3 : w2.heap.size < w3.heap.size := blk_lt F3.out
  have hz3' : w.heap.size < w3.heap.size := blk_lt B3.out
  have c0 := blk_cell B3.out 0
  have c1 := blk_cell B3.out 1
  have c2 := blk_cell B3.out 2
  simp at c0 c1 c2
  go_wp2_with fail
  refine (damp_Check.calls a b c 1 _ EC.out).mono ?_
  rintro e w4 ⟨rfl, hb⟩
  have HB4 := Aside0.mk (below_step HB3.out hb)
  have B4 := Aside0.mk (blk_below B3.out hb)
  have D4 := Aside0.mk (blk_below D3.out hb)
  have F4 := Aside0.mk (blk_below F3.out hb)
  clear hb B3 D3 F3 HB3 c0 c1 c2
  have hz4 : w2.heap.size < w4.heap.size := blk_lt F4.out
  have hz4' : w.heap.size < w4.heap.size := blk_lt B4.out
  have hz4'' : w1.heap.size < w4.heap.size := blk_lt D4.out
  have c0 := blk_cell B4.out 0
  have c1 := blk_cell B4.out 1
  have c2 := blk_cell B4.out 2
  have d0 := blk_cell D4.out 0
  have d1 := blk_cell D4.out 1
  have d2 := blk_cell D4.out 2
  have f0 := blk_cell F4.out 0
  have f1 := blk_cell F4.out 1
  have f2 := blk_cell F4.out 2
  simp at c0 c1 c2 d0 d1 d2 f0 f1 f2
  go_wp2_with fail
  refine (awake_calls _).mono ?_
  rintro e w5 ⟨rfl, hb⟩
  have HB5 := Aside0.mk (below_step HB4.out hb)
  clear hb
  go_wp2
  go_ret
  exact ⟨rfl, HB5.out⟩

set_option maxHeartbeats 800000 in
set_option maxRecDepth 100000 in
theorem turns_no1 (a : Int) (b : Bool) (c t : Int) (w : World) (et : damp_Time.f a b c t = some (0, false, 0, 1)) (ef : damp_Flap.f a b c t = some (0, false, 0, 1)) (em : waymarkref54_May.f a b c = some true) (ec : damp_Check.f a b c = some 0) (ht : t < c) :
    Calls Try.prog 5 #[.agg #[.int .i64 a, .bool b, .int .i64 c], .int .i64 t] w fun e w' => e = .returned (.bool true) ∧ Below w.heap.size w w' := by
  have ET := Aside0.mk et
  have EF := Aside0.mk ef
  have EM := Aside0.mk em
  have EC := Aside0.mk ec
  clear et ef em ec
  go_enter Try.func5, Try.ntmps5
  go_wp2_with fail
  refine (damp_Time.calls a b c t 0 false 0 1 _ ET.out).mono ?_
  rintro e w1 ⟨rfl, hb⟩
  have B1 := Aside0.mk (blk_below (blk_new w _) hb)
  have HB := Aside0.mk (below_step (below_alloc (Below.refl _ _) _) hb)
  clear hb
  have hz1 : w.heap.size < w1.heap.size := blk_lt B1.out
  have c0 := blk_cell B1.out 0
  have c1 := blk_cell B1.out 1
  have c2 := blk_cell B1.out 2
  simp at c0 c1 c2
  go_wp2_with fail
  refine (damp_Flap.calls a b c t 0 false 0 1 _ EF.out).mono ?_
  rintro e w2 ⟨rfl, hb⟩
  have HB2 := Aside0.mk (below_step (below_alloc HB.out _) hb)
  have B2 := Aside0.mk (blk_below (blk_alloc B1.out _) hb)
  have D2 := Aside0.mk (blk_below (blk_new w1 _) hb)
  clear hb B1 HB c0 c1 c2
  have hz2 : w1.heap.size < w2.heap.size := blk_lt D2.out
  have hz2' : w.heap.size < w2.heap.size := blk_lt B2.out
  have c0 := blk_cell B2.out 0
  have c1 := blk_cell B2.out 1
  have c2 := blk_cell B2.out 2
  simp at c0 c1 c2
  go_wp2_with fail
  refine (waymarkref54_May.calls a b c true _ EM.out).mono ?_
  rintro e w3 ⟨rfl, hb⟩
  have HB3 := Aside0.mk (below_step (below_alloc HB2.out _) hb)
  have B3 := Aside0.mk (blk_below (blk_alloc B2.out _) hb)
  have D3 := Aside0.mk (blk_below (blk_alloc D2.out _) hb)
  have F3 := Aside0.mk (blk_below (blk_new w2 _) hb)
  clear hb B2 D2 HB2 c0 c1 c2
  have hz3 : w2.heap.size < w3.heap.size := blk_lt F3.out
  have hz3' : w.heap.size < w3.heap.size := blk_lt B3.out
  have c0 := blk_cell B3.out 0
  have c1 := blk_cell B3.out 1
  have c2 := blk_cell B3.out 2
  simp at c0 c1 c2
  go_wp2_with fail
  refine (damp_Check.calls a b c 0 _ EC.out).mono ?_
  rintro e w4 ⟨rfl, hb⟩
  have HB4 := Aside0.mk (below_step HB3.out hb)
  have B4 := Aside0.mk (blk_below B3.out hb)
  have D4 := Aside0.mk (blk_below D3.out hb)
  have F4 := Aside0.mk (blk_below F3.out hb)
  clear hb B3 D3 F3 HB3 c0 c1 c2
  have hz4 : w2.heap.size < w4.heap.size := blk_lt F4.out
  have hz4' : w.heap.size < w4.heap.size := blk_lt B4.out
  have hz4'' : w1.heap.size < w4.heap.size := blk_lt D4.out
  have c0 := blk_cell B4.out 0
  have c1 := blk_cell B4.out 1
  have c2 := blk_cell B4.out 2
  have d0 := blk_cell D4.out 0
  have d1 := blk_cell D4.out 1
  have d2 := blk_cell D4.out 2
  have f0 := blk_cell F4.out 0
  have f1 := blk_cell F4.out 1
  have f2 := blk_cell F4.out 2
  simp at c0 c1 c2 d0 d1 d2 f0 f1 f2
  go_wp2_with fail
  refine (awake_calls _).mono ?_
  rintro e w5 ⟨rfl, hb⟩
  have HB5 := Aside0.mk (below_step HB4.out hb)
  clear hb
  go_wp2
  go_ret
  exact ⟨rfl, HB5.out⟩

set_option maxHeartbeats 800000 in
set_option maxRecDepth 100000 in
theorem turns_no2 (a : Int) (b : Bool) (c t : Int) (w : World) (et : damp_Time.f a b c t = some (0, false, 0, 1)) (ef : damp_Flap.f a b c t = some (0, false, 0, 1)) (em : waymarkref54_May.f a b c = some true) (ec : damp_Check.f a b c = some 0) (ht0 : c ≤ t) (ht : 1099511627776 < t) :
    Calls Try.prog 5 #[.agg #[.int .i64 a, .bool b, .int .i64 c], .int .i64 t] w fun e w' => e = .returned (.bool true) ∧ Below w.heap.size w w' := by
  have ET := Aside0.mk et
  have EF := Aside0.mk ef
  have EM := Aside0.mk em
  have EC := Aside0.mk ec
  clear et ef em ec
  go_enter Try.func5, Try.ntmps5
  go_wp2_with fail
  refine (damp_Time.calls a b c t 0 false 0 1 _ ET.out).mono ?_
  rintro e w1 ⟨rfl, hb⟩
  have B1 := Aside0.mk (blk_below (blk_new w _) hb)
  have HB := Aside0.mk (below_step (below_alloc (Below.refl _ _) _) hb)
  clear hb
  have hz1 : w.heap.size < w1.heap.size := blk_lt B1.out
  have c0 := blk_cell B1.out 0
  have c1 := blk_cell B1.out 1
  have c2 := blk_cell B1.out 2
  simp at c0 c1 c2
  go_wp2_with fail
  refine (damp_Flap.calls a b c t 0 false 0 1 _ EF.out).mono ?_
  rintro e w2 ⟨rfl, hb⟩
  have HB2 := Aside0.mk (below_step (below_alloc HB.out _) hb)
  have B2 := Aside0.mk (blk_below (blk_alloc B1.out _) hb)
  have D2 := Aside0.mk (blk_below (blk_new w1 _) hb)
  clear hb B1 HB c0 c1 c2
  have hz2 : w1.heap.size < w2.heap.size := blk_lt D2.out
  have hz2' : w.heap.size < w2.heap.size := blk_lt B2.out
  have c0 := blk_cell B2.out 0
  have c1 := blk_cell B2.out 1
  have c2 := blk_cell B2.out 2
  simp at c0 c1 c2
  go_wp2_with fail
  refine (waymarkref54_May.calls a b c true _ EM.out).mono ?_
  rintro e w3 ⟨rfl, hb⟩
  have HB3 := Aside0.mk (below_step (below_alloc HB2.out _) hb)
  have B3 := Aside0.mk (blk_below (blk_alloc B2.out _) hb)
  have D3 := Aside0.mk (blk_below (blk_alloc D2.out _) hb)
  have F3 := Aside0.mk (blk_below (blk_new w2 _) hb)
  clear hb B2 D2 HB2 c0 c1 c2
  have hz3 : w2.heap.size < w3.heap.size := blk_lt F3.out
  have hz3' : w.heap.size < w3.heap.size := blk_lt B3.out
  have c0 := blk_cell B3.out 0
  have c1 := blk_cell B3.out 1
  have c2 := blk_cell B3.out 2
  simp at c0 c1 c2
  go_wp2_with fail
  refine (damp_Check.calls a b c 0 _ EC.out).mono ?_
  rintro e w4 ⟨rfl, hb⟩
  have HB4 := Aside0.mk (below_step HB3.out hb)
  have B4 := Aside0.mk (blk_below B3.out hb)
  have D4 := Aside0.mk (blk_below D3.out hb)
  have F4 := Aside0.mk (blk_below F3.out hb)
  clear hb B3 D3 F3 HB3 c0 c1 c2
  have hz4 : w2.heap.size < w4.heap.size := blk_lt F4.out
  have hz4' : w.heap.size < w4.heap.size := blk_lt B4.out
  have hz4'' : w1.heap.size < w4.heap.size := blk_lt D4.out
  have c0 := blk_cell B4.out 0
  have c1 := blk_cell B4.out 1
  have c2 := blk_cell B4.out 2
  have d0 := blk_cell D4.out 0
  have d1 := blk_cell D4.out 1
  have d2 := blk_cell D4.out 2
  have f0 := blk_cell F4.out 0
  have f1 := blk_cell F4.out 1
  have f2 := blk_cell F4.out 2
  simp at c0 c1 c2 d0 d1 d2 f0 f1 f2
  go_wp2_with fail
  refine (awake_calls _).mono ?_
  rintro e w5 ⟨rfl, hb⟩
  have HB5 := Aside0.mk (below_step HB4.out hb)
  clear hb
  go_wp2
  go_ret
  exact ⟨rfl, HB5.out⟩

theorem keep9 {w W W' : World} {a0 a1 a2 b0 b1 b2 c0 c1 c2 : Addr} {v0 v1 v2 u0 u1 u2 x0 x1 x2 : Value}
    (h : (W.cell? a0 = some v0 ∧ W.cell? a1 = some v1 ∧ W.cell? a2 = some v2) ∧ (W.cell? b0 = some u0 ∧ W.cell? b1 = some u1 ∧ W.cell? b2 = some u2) ∧ (W.cell? c0 = some x0 ∧ W.cell? c1 = some x1 ∧ W.cell? c2 = some x2) ∧ Aside0 (Below w.heap.size w W))
    (hb : Below W.heap.size W W') :
    (W'.cell? a0 = some v0 ∧ W'.cell? a1 = some v1 ∧ W'.cell? a2 = some v2) ∧ (W'.cell? b0 = some u0 ∧ W'.cell? b1 = some u1 ∧ W'.cell? b2 = some u2) ∧ (W'.cell? c0 = some x0 ∧ W'.cell? c1 = some x1 ∧ W'.cell? c2 = some x2) ∧ Aside0 (Below w.heap.size w W') := by
  obtain ⟨⟨h1, h2, h3⟩, ⟨h4, h5, h6⟩, ⟨h7, h8, h9⟩, h10⟩ := h
  exact ⟨⟨pw_cell_below hb h1, pw_cell_below hb h2, pw_cell_below hb h3⟩, ⟨pw_cell_below hb h4, pw_cell_below hb h5, pw_cell_below hb h6⟩, ⟨pw_cell_below hb h7, pw_cell_below hb h8, pw_cell_below hb h9⟩, ⟨below_step h10.out hb⟩⟩

set_option maxHeartbeats 1600000 in
set_option maxRecDepth 100000 in
theorem turns_yes (a : Int) (b : Bool) (c t x : Int) (p : Bool) (y z : Int) (q : Bool) (k : Nat) (w : World) (et : damp_Time.f a b c t = some (x, p, y, 0)) (ef : damp_Flap.f a b c t = some (z, q, y, 0)) (em : waymarkref54_May.f a b c = some true) (ec : damp_Check.f a b c = some 0)
    (ht0 : c ≤ t) (ht1 : t ≤ 1099511627776) (ex : damp_Check.f x p y = some 0) (ey : damp_Check.f z q y = some 0) (er : waymarkref54_Time.f k a b c t = some (x, p, y))
    (hx0 : 0 ≤ x) (hx1 : x ≤ 8000) (hz : (if 8000 < x + 1000 then 8000 else x + 1000) = z) (hq : (if 2000 ≤ z then true else p) = q) :
    Calls Try.prog 5 #[.agg #[.int .i64 a, .bool b, .int .i64 c], .int .i64 t] w fun e w' => e = .returned (.bool true) ∧ Below w.heap.size w w' := by
  have ET := Aside0.mk et
  have EF := Aside0.mk ef
  have EM := Aside0.mk em
  have EC := Aside0.mk ec
  have EX := Aside0.mk ex
  have EY := Aside0.mk ey
  have ER := Aside0.mk er
  have HZ := Aside0.mk hz
  have HQ := Aside0.mk hq
  clear et ef em ec ex ey er hz hq
  go_enter Try.func5, Try.ntmps5
  go_wp2_with fail
  refine (damp_Time.calls a b c t x p y 0 _ ET.out).mono ?_
  rintro e w1 ⟨rfl, hb⟩
  have B1 := Aside0.mk (blk_below (blk_new w _) hb)
  have HB := Aside0.mk (below_step (below_alloc (Below.refl _ _) _) hb)
  clear hb
  have hz1 : w.heap.size < w1.heap.size := blk_lt B1.out
  have c0 := blk_cell B1.out 0
  have c1 := blk_cell B1.out 1
  have c2 := blk_cell B1.out 2
  simp at c0 c1 c2
  go_wp2_with fail
  refine (damp_Flap.calls a b c t z q y 0 _ EF.out).mono ?_
  rintro e w2 ⟨rfl, hb⟩
  have HB2 := Aside0.mk (below_step (below_alloc HB.out _) hb)
  have B2 := Aside0.mk (blk_below (blk_alloc B1.out _) hb)
  have D2 := Aside0.mk (blk_below (blk_new w1 _) hb)
  clear hb B1 HB c0 c1 c2
  have hz2 : w1.heap.size < w2.heap.size := blk_lt D2.out
  have hz2' : w.heap.size < w2.heap.size := blk_lt B2.out
  have c0 := blk_cell B2.out 0
  have c1 := blk_cell B2.out 1
  have c2 := blk_cell B2.out 2
  simp at c0 c1 c2
  go_wp2_with fail
  refine (waymarkref54_May.calls a b c true _ EM.out).mono ?_
  rintro e w3 ⟨rfl, hb⟩
  have HB3 := Aside0.mk (below_step (below_alloc HB2.out _) hb)
  have B3 := Aside0.mk (blk_below (blk_alloc B2.out _) hb)
  have D3 := Aside0.mk (blk_below (blk_alloc D2.out _) hb)
  have F3 := Aside0.mk (blk_below (blk_new w2 _) hb)
  clear hb B2 D2 HB2 c0 c1 c2
  have hz3 : w2.heap.size < w3.heap.size := blk_lt F3.out
  have hz3' : w.heap.size < w3.heap.size := blk_lt B3.out
  have c0 := blk_cell B3.out 0
  have c1 := blk_cell B3.out 1
  have c2 := blk_cell B3.out 2
  simp at c0 c1 c2
  go_wp2_with fail
  refine (damp_Check.calls a b c 0 _ EC.out).mono ?_
  rintro e w4 ⟨rfl, hb⟩
  have HB4 := Aside0.mk (below_step HB3.out hb)
  have B4 := Aside0.mk (blk_below B3.out hb)
  have D4 := Aside0.mk (blk_below D3.out hb)
  have F4 := Aside0.mk (blk_below F3.out hb)
  clear hb B3 D3 F3 HB3 c0 c1 c2
  have hz4 : w2.heap.size < w4.heap.size := blk_lt F4.out
  have hz4' : w.heap.size < w4.heap.size := blk_lt B4.out
  have hz4'' : w1.heap.size < w4.heap.size := blk_lt D4.out
  have c0 := blk_cell B4.out 0
  have c1 := blk_cell B4.out 1
  have c2 := blk_cell B4.out 2
  have d0 := blk_cell D4.out 0
  have d1 := blk_cell D4.out 1
  have d2 := blk_cell D4.out 2
  have f0 := blk_cell F4.out 0
  have f1 := blk_cell F4.out 1
  have f2 := blk_cell F4.out 2
  simp at c0 c1 c2 d0 d1 d2 f0 f1 f2
  go_wp2_with fail
  go_region_held3 (fun W => (W.cell? ⟨w.heap.size, 0, none⟩ = some (.int .i64 a) ∧ W.cell? ⟨w.heap.size, 1, none⟩ = some (.bool b) ∧ W.cell? ⟨w.heap.size, 2, none⟩ = some (.int .i64 c)) ∧
      (W.cell? ⟨w1.heap.size, 0, none⟩ = some (.int .i64 x) ∧ W.cell? ⟨w1.heap.size, 1, none⟩ = some (.bool p) ∧ W.cell? ⟨w1.heap.size, 2, none⟩ = some (.int .i64 y)) ∧
      (W.cell? ⟨w2.heap.size, 0, none⟩ = some (.int .i64 z) ∧ W.cell? ⟨w2.heap.size, 1, none⟩ = some (.bool q) ∧ W.cell? ⟨w2.heap.size, 2, none⟩ = some (.int .i64 y)) ∧ Aside0 (Below w.heap.size w W))
    ((first | (with_reducible assumption) | exact ⟨⟨c0, c1, c2⟩, ⟨d0, d1, d2⟩, ⟨f0, f1, f2⟩, ⟨below_drew HB4.out⟩⟩))
    (first | (go_at_call 26; (with_reducible refine (waymarkref54_Time.calls k a b c t x p y _ ER.out).mono ?_); rintro e w' ⟨rfl, hb⟩; have hS' := keep9 (by with_reducible assumption) hb) | (go_at_call 27; (with_reducible refine (ref_flap k a b c t x p y z q _ ER.out hx0 hx1 HZ.out HQ.out).mono ?_); rintro e w' ⟨rfl, hb⟩; have hS' := keep9 (by with_reducible assumption) hb) | (go_at_call 24; (with_reducible refine (damp_Check.calls x p y 0 _ EX.out).mono ?_); rintro e w' ⟨rfl, hb⟩; have hS' := keep9 (by with_reducible assumption) hb) | (go_at_call 24; (with_reducible refine (damp_Check.calls z q y 0 _ EY.out).mono ?_); rintro e w' ⟨rfl, hb⟩; have hS' := keep9 (by with_reducible assumption) hb) | (go_at_call 25; (with_reducible refine (awake_calls _).mono ?_); rintro e w' ⟨rfl, hb⟩; have hS' := keep9 (by with_reducible assumption) hb))
  go_wp2
  go_ret
  exact ⟨rfl, hS'.2.2.2.out⟩

theorem ref_time (t c0 : Int) (h4 : t ≤ 1099511627776) (d : Nat) : ∀ (k : Nat) (i A : Int) (b : Bool) (C : Int), 0 ≤ i → i ≤ 20 → 20 - i = d → d < k → 0 ≤ A → A ≤ 8000 → 0 ≤ C → C ≤ t →
    waymarkref54_Time.l0 k t i A b C = some (A / 2 ^ (mn ((t - C) / 10) d).toNat, b && decide (A / 2 ^ (mn ((t - C) / 10) d).toNat ≥ 750), C + (t - C) / 10 * 10) := by
  have fin : ∀ (A : Int) (b : Bool) (C : Int), 0 ≤ C → C ≤ t → (if A < 750 then (some (A, false, wrap64 (C + (wrap64 ((wrap64 (Int.tdiv (wrap64 (t - C)) 10)) * 10))))) else (some (A, b, wrap64 (C + (wrap64 ((wrap64 (Int.tdiv (wrap64 (t - C)) 10)) * 10)))))) = some (A, b && decide (A ≥ 750), C + (t - C) / 10 * 10) := by
    intro A b C h2 h3
    have e1 : wrap64 (t - C) = t - C := by unfold wrap64; omega
    have e2 : wrap64 (Int.tdiv (t - C) 10) = (t - C) / 10 := by rw [Int.tdiv_eq_ediv_of_nonneg (by omega)]; unfold wrap64; omega
    have e3 : wrap64 ((t - C) / 10 * 10) = (t - C) / 10 * 10 := by unfold wrap64; omega
    have e4 : wrap64 (C + (t - C) / 10 * 10) = C + (t - C) / 10 * 10 := by unfold wrap64; omega
    rw [e1, e2, e3, e4]
    by_cases g : A < 750
    · rw [if_pos g, decide_eq_false (by omega : ¬ A ≥ 750), Bool.and_false]
    · rw [if_neg g, decide_eq_true (by omega : A ≥ 750), Bool.and_true]
  induction d with
  | zero =>
    intro k i A b C hi0 hi1 hd hk hA0 hA1 hC0 hC1
    obtain ⟨k, rfl⟩ : ∃ m, k = m + 1 := ⟨k - 1, by omega⟩
    have ez : (mn ((t - C) / 10) ((0 : Nat) : Int)).toNat = 0 := by unfold mn; split <;> omega
    rw [ez]
    simp only [waymarkref54_Time.l0]
    rw [if_neg (by omega), fin A b C hC0 hC1]
    simp
  | succ d ih =>
    intro k i A b C hi0 hi1 hd hk hA0 hA1 hC0 hC1
    obtain ⟨k, rfl⟩ : ∃ m, k = m + 1 := ⟨k - 1, by omega⟩
    simp only [waymarkref54_Time.l0]
    rw [if_pos (by omega)]
    have e1 : wrap64 (t - C) = t - C := by unfold wrap64; omega
    by_cases g : t - C ≥ 10
    · rw [if_pos (by rw [e1]; exact g)]
      have e5 : wrap64 (i + 1) = i + 1 := by unfold wrap64; omega
      have e6 : wrap64 (Int.tdiv A 2) = A / 2 := by rw [Int.tdiv_eq_ediv_of_nonneg (by omega)]; unfold wrap64; omega
      have e7 : wrap64 (C + 10) = C + 10 := by unfold wrap64; omega
      rw [e5, e6, e7, ih k (i + 1) (A / 2) b (C + 10) (by omega) (by omega) (by omega) (by omega) (by omega) (by omega) (by omega) (by omega)]
      have em : (mn ((t - C) / 10) ((d + 1 : Nat) : Int)).toNat = (mn ((t - (C + 10)) / 10) (d : Int)).toNat + 1 := by unfold mn; split <;> split <;> omega
      rw [em, div_two']
      congr 3
      omega
    · rw [if_neg (by rw [e1]; exact g), fin A b C hC0 hC1]
      have ez : (mn ((t - C) / 10) ((d + 1 : Nat) : Int)).toNat = 0 := by unfold mn; split <;> omega
      rw [ez]
      simp

theorem ref_time_ok (k : Nat) (hk : 20 < k) (a : Int) (b : Bool) (c t : Int) (h0 : 0 ≤ a) (h1 : a ≤ 8000) (h2 : 0 ≤ c) (h3 : c ≤ t) (h4 : t ≤ 1099511627776) :
    waymarkref54_Time.f k a b c t = some (a / 2 ^ ex c t, b && decide (a / 2 ^ ex c t ≥ 750), c + (t - c) / 10 * 10) := by
  unfold waymarkref54_Time.f
  rw [ref_time t c h4 20 k 0 a b c (by omega) (by omega) (by omega) hk h0 h1 h2 h3]
  rfl


theorem turns_any (a : Int) (b : Bool) (c t : Int) (w : World) :
    Calls Try.prog 5 #[.agg #[.int .i64 a, .bool b, .int .i64 c], .int .i64 t] w fun e w' => e = .returned (.bool true) ∧ Below w.heap.size w w' := by
  by_cases g : 0 ≤ a ∧ a ≤ 8000 ∧ 0 ≤ c ∧ c ≤ 1099511627776
  · by_cases g2 : c ≤ t ∧ t ≤ 1099511627776
    · have et := time_ok a b c t g.1 g.2.1 g.2.2.1 g2.1 g2.2
      have er := ref_time_ok 21 (by omega) a b c t g.1 g.2.1 g.2.2.1 g2.1 g2.2
      have hd := div_le' a (ex c t) g.1
      generalize a / 2 ^ ex c t = x at hd et er
      have e1 : wrap64 (x + 1000) = x + 1000 := by unfold wrap64; omega
      have ef : damp_Flap.f a b c t = some (if 8000 < x + 1000 then 8000 else x + 1000, if 2000 ≤ (if 8000 < x + 1000 then 8000 else x + 1000) then true else (b && decide (x ≥ 750)), c + (t - c) / 10 * 10, 0) := by
        unfold damp_Flap.f
        rw [et]
        simp only [Option.bind_some, if_true, e1]
        unfold mn
        generalize (if 8000 < x + 1000 then 8000 else x + 1000) = z
        cases (b && decide (x ≥ 750))
        · rw [if_neg (by simp)]
          by_cases h : 2000 ≤ z
          · rw [if_pos h, decide_eq_true (show z ≥ 2000 from h)]
          · rw [if_neg h, decide_eq_false (show ¬ z ≥ 2000 from h)]
        · rw [if_pos rfl]
          simp
      exact turns_yes a b c t x _ _ _ _ 21 w et ef (may_ok a b c g.1 g.2.1 g.2.2.1 g.2.2.2) (check_ok a b c g.1 g.2.1 g.2.2.1 g.2.2.2) g2.1 g2.2
        (check_ok _ _ _ hd.1 (by omega) (by omega) (by omega)) (check_ok _ _ _ (by split <;> omega) (by split <;> omega) (by omega) (by omega)) er hd.1 (by omega) rfl rfl
    · have et := time_no a b c t (by omega)
      have ef : damp_Flap.f a b c t = some (0, false, 0, 1) := by
        unfold damp_Flap.f
        rw [et]
        rfl
      by_cases h : t < c
      · exact turns_no1 a b c t w et ef (may_ok a b c g.1 g.2.1 g.2.2.1 g.2.2.2) (check_ok a b c g.1 g.2.1 g.2.2.1 g.2.2.2) h
      · exact turns_no2 a b c t w et ef (may_ok a b c g.1 g.2.1 g.2.2.1 g.2.2.2) (check_ok a b c g.1 g.2.1 g.2.2.1 g.2.2.2) (by omega) (by omega)
  · have et := time_no a b c t (.inl g)
    have ef : damp_Flap.f a b c t = some (0, false, 0, 1) := by
      unfold damp_Flap.f
      rw [et]
      rfl
    exact turns_no0 a b c t w et ef (may_no a b c g) (check_no a b c g)

end Go.Proofs.Ytdkobokdeofiiaa.Dm
