/- Contract of the reference's Bare. Contract of the reference's One. -/
import Derived.Test.YtagpkphehkfjgaaDoorSmB
import Derived.Deep.RegionHeld3
set_option linter.unusedVariables false
set_option linter.unusedSimpArgs false
namespace Go.Proofs.YtagpkphehkfjgaaDoor.Sc
open Go.RowKit Go.Proofs.YtagpkphehkfjgaaDoorW.PrintWords Go.Proofs.YtagpkphehkfjgaaDoorW.PrintLast Go.Proofs.YtagpkphehkfjgaaDoorW.PrintMore Go.Proofs.YtagpkphehkfjgaaDoor.Px
/-- The three variables of Bare. -/
structure B3 (w : World) (g1 gr g3 : Nat) (a b : Act) (v : Value) (W : World) : Prop where
  c1 : B60 W g1 a v
  cr : B60 W gr zAct (.slice none 0 0)
  c3 : B60 W g3 b (.slice none 0 0)
  n1 : gr ≠ g3
  n2 : g1 ≠ g3
  er : w.heap.size ≤ gr
  e3 : w.heap.size ≤ g3
  b : Below w.heap.size w W
theorem b3_new (w : World) (a b : Act) (v : Value) (o1 o2 o3 : Obj) (h1 : o1 = .cells #[.int .i64 a.k, .int .i64 a.a, .int .i64 a.b, .int .i64 a.n, .int .i64 a.x, .int .i64 a.y, v] 60) (h2 : o2 = .cells #[.int .i64 0, .int .i64 0, .int .i64 0, .int .i64 0, .int .i64 0, .int .i64 0, .slice none 0 0] 60) (h3 : o3 = .cells #[.int .i64 b.k, .int .i64 b.a, .int .i64 b.b, .int .i64 b.n, .int .i64 b.x, .int .i64 b.y, .slice none 0 0] 60) : B3 w w.heap.size (w.heap.size + 1) (w.heap.size + 1 + 1) a b v (((w.alloc o1).alloc o2).alloc o3) := by
  subst h1 h2 h3
  have e1 : ∀ (w : World) (o : Obj), (w.alloc o).heap.size = w.heap.size + 1 := fun w o => by simp
  have h2 := blk_new (w.alloc (.cells #[.int .i64 a.k, .int .i64 a.a, .int .i64 a.b, .int .i64 a.n, .int .i64 a.x, .int .i64 a.y, v] 60)) (.cells #[.int .i64 0, .int .i64 0, .int .i64 0, .int .i64 0, .int .i64 0, .int .i64 0, .slice none 0 0] 60)
  have h3 := blk_new ((w.alloc (.cells #[.int .i64 a.k, .int .i64 a.a, .int .i64 a.b, .int .i64 a.n, .int .i64 a.x, .int .i64 a.y, v] 60)).alloc (.cells #[.int .i64 0, .int .i64 0, .int .i64 0, .int .i64 0, .int .i64 0, .int .i64 0, .slice none 0 0] 60)) (.cells #[.int .i64 b.k, .int .i64 b.a, .int .i64 b.b, .int .i64 b.n, .int .i64 b.x, .int .i64 b.y, .slice none 0 0] 60)
  rw [e1] at h2
  rw [e1, e1] at h3
  exact ⟨blk_alloc (blk_alloc (blk_new w _) _) _, blk_alloc h2 _, h3, by omega, by omega, by omega, by omega, below_alloc (below_alloc (below_alloc (Below.refl _ _) _) _) _⟩
set_option maxHeartbeats 1600000 in
set_option maxRecDepth 100000 in
theorem bare_2 (a b n x y : Int) (ts : List Tear) (A : Option Addr) (c : Nat) (w : World) : Calls Tryd.prog 55 #[.agg #[.int .i64 2, .int .i64 a, .int .i64 b, .int .i64 n, .int .i64 x, .int .i64 y, .slice A ts.length c]] w fun e w' => e = .returned (.agg #[.int .i64 2, .int .i64 a, .int .i64 b, .int .i64 0, .int .i64 x, .int .i64 y, .slice none 0 0]) ∧ Below w.heap.size w w' := by
  go_enter Tryd.func55, Tryd.ntmps55
  go_upto_region 2 with (fail)
  refine wp_world (B3 w w.heap.size (w.heap.size + 1) (w.heap.size + 1 + 1) ⟨2, a, b, n, x, y, ts⟩ ⟨2, a, 0, 0, 0, 0, []⟩ (.slice A ts.length c)) (b3_new _ _ _ _ _ _ _ rfl rfl rfl) ?_
  obtain ⟨g1, hg1⟩ : ∃ g1, w.heap.size = g1 := ⟨_, rfl⟩
  obtain ⟨gr, hgr⟩ : ∃ gr, w.heap.size + 1 = gr := ⟨_, rfl⟩
  obtain ⟨g3, hg3⟩ : ∃ g3, gr + 1 = g3 := ⟨_, rfl⟩
  rw [hgr, hg3, hg1]
  clear hg1 hgr hg3
  intro w3 hs
  have HS := Aside0.mk hs
  clear hs
  obtain ⟨r0, r1, r2, r3, r4, r5, r6⟩ := HS.out.cr.all
  obtain ⟨f0, f1, f2, f3, f4, f5, f6⟩ := HS.out.cr.frz
  obtain ⟨s0, s1, s2, s3, s4, s5, s6⟩ := HS.out.c3.all
  obtain ⟨e0, e1, e2, e3, e4, e5, e6⟩ := HS.out.c3.frz
  obtain ⟨c0, c1, c2, c3, c4, c5, c6⟩ := HS.out.c1.all
  have n1 : gr ≠ g3 := HS.out.n1
  have n2 : g1 ≠ g3 := HS.out.n2
  simp only [zAct] at s0 s1 s2 s3 s4 s5 s6 c0 c1 c2 c3 c4 c5 c6
  go_upto_region 4 with (fail)
  go_region
  obtain ⟨w4, hw4⟩ : ∃ w4, (((w3.setCell ⟨g3, 2, none⟩ (.int .i64 b)).setCell ⟨g3, 4, none⟩ (.int .i64 x)).setCell ⟨g3, 5, none⟩ (.int .i64 y)).drew = w4 := ⟨_, rfl⟩
  rw [hw4]
  have HR4 : Aside0 (B60 w4 gr zAct (.slice none 0 0)) := ⟨by rw [← hw4]; exact blk_drew (blk_far (p := ⟨g3, 5, none⟩) (blk_far (p := ⟨g3, 4, none⟩) (blk_far (p := ⟨g3, 2, none⟩) (HS.out.cr) HS.out.n1 (.int .i64 b)) HS.out.n1 (.int .i64 x)) HS.out.n1 (.int .i64 y))⟩
  have H34 : Aside0 (B60 w4 g3 (⟨2, a, b, 0, x, y, []⟩ : Act) (.slice none 0 0)) := ⟨by rw [← hw4]; exact blk_drew (blk_put (blk_put (blk_put (HS.out.c3) 2 (.int .i64 b) rfl) 4 (.int .i64 x) rfl) 5 (.int .i64 y) rfl)⟩
  have HB4 : Aside0 (Below w.heap.size w w4) := ⟨by rw [← hw4]; exact below_drew (below_set (below_set (below_set (HS.out.b) HS.out.e3 2 (.int .i64 b)) HS.out.e3 4 (.int .i64 x)) HS.out.e3 5 (.int .i64 y))⟩
  clear hw4 r0 r1 r2 r3 r4 r5 r6 f0 f1 f2 f3 f4 f5 f6 s0 s1 s2 s3 s4 s5 s6 e0 e1 e2 e3 e4 e5 e6 c0 c1 c2 c3 c4 c5 c6
  obtain ⟨r0, r1, r2, r3, r4, r5, r6⟩ := HR4.out.all
  obtain ⟨f0, f1, f2, f3, f4, f5, f6⟩ := HR4.out.frz
  obtain ⟨s0, s1, s2, s3, s4, s5, s6⟩ := H34.out.all
  simp only [zAct] at s0 s1 s2 s3 s4 s5 s6
  have HP := Aside0.mk (put7_blk (HR4.out) (⟨2, a, b, 0, x, y, []⟩ : Act) (.slice none 0 0))
  have HW := Aside0.mk (put7_below (HB4.out) HS.out.er (⟨2, a, b, 0, x, y, []⟩ : Act) (.slice none 0 0))
  go_wp2
  refine bodyPost_ret (results_cell_row rfl _ _ gr 60 #[.int .i64 2, .int .i64 a, .int .i64 b, .int .i64 0, .int .i64 x, .int .i64 y, .slice none 0 0] (0, 0) _ rfl HP.out Tryd.underlying60 rfl (by kernel_rfl)) rfl ?_
  exact ⟨rfl, HW.out⟩
set_option maxHeartbeats 1600000 in
set_option maxRecDepth 100000 in
theorem bare_3 (a b n x y : Int) (ts : List Tear) (A : Option Addr) (c : Nat) (w : World) : Calls Tryd.prog 55 #[.agg #[.int .i64 3, .int .i64 a, .int .i64 b, .int .i64 n, .int .i64 x, .int .i64 y, .slice A ts.length c]] w fun e w' => e = .returned (.agg #[.int .i64 3, .int .i64 a, .int .i64 b, .int .i64 0, .int .i64 0, .int .i64 0, .slice none 0 0]) ∧ Below w.heap.size w w' := by
  go_enter Tryd.func55, Tryd.ntmps55
  go_upto_region 2 with (fail)
  refine wp_world (B3 w w.heap.size (w.heap.size + 1) (w.heap.size + 1 + 1) ⟨3, a, b, n, x, y, ts⟩ ⟨3, a, 0, 0, 0, 0, []⟩ (.slice A ts.length c)) (b3_new _ _ _ _ _ _ _ rfl rfl rfl) ?_
  obtain ⟨g1, hg1⟩ : ∃ g1, w.heap.size = g1 := ⟨_, rfl⟩
  obtain ⟨gr, hgr⟩ : ∃ gr, w.heap.size + 1 = gr := ⟨_, rfl⟩
  obtain ⟨g3, hg3⟩ : ∃ g3, gr + 1 = g3 := ⟨_, rfl⟩
  rw [hgr, hg3, hg1]
  clear hg1 hgr hg3
  intro w3 hs
  have HS := Aside0.mk hs
  clear hs
  obtain ⟨r0, r1, r2, r3, r4, r5, r6⟩ := HS.out.cr.all
  obtain ⟨f0, f1, f2, f3, f4, f5, f6⟩ := HS.out.cr.frz
  obtain ⟨s0, s1, s2, s3, s4, s5, s6⟩ := HS.out.c3.all
  obtain ⟨e0, e1, e2, e3, e4, e5, e6⟩ := HS.out.c3.frz
  obtain ⟨c0, c1, c2, c3, c4, c5, c6⟩ := HS.out.c1.all
  have n1 : gr ≠ g3 := HS.out.n1
  have n2 : g1 ≠ g3 := HS.out.n2
  simp only [zAct] at s0 s1 s2 s3 s4 s5 s6 c0 c1 c2 c3 c4 c5 c6
  have HP := Aside0.mk (put7_blk (blk_far (p := ⟨g3, 2, none⟩) (HS.out.cr) HS.out.n1 (.int .i64 b)) (⟨3, a, b, 0, 0, 0, []⟩ : Act) (.slice none 0 0))
  have HW := Aside0.mk (put7_below (below_set (HS.out.b) HS.out.e3 2 (.int .i64 b)) HS.out.er (⟨3, a, b, 0, 0, 0, []⟩ : Act) (.slice none 0 0))
  go_wp2
  refine bodyPost_ret (results_cell_row rfl _ _ gr 60 #[.int .i64 3, .int .i64 a, .int .i64 b, .int .i64 0, .int .i64 0, .int .i64 0, .slice none 0 0] (0, 0) _ rfl HP.out Tryd.underlying60 rfl (by kernel_rfl)) rfl ?_
  exact ⟨rfl, HW.out⟩
set_option maxHeartbeats 1600000 in
set_option maxRecDepth 100000 in
theorem bare_5 (a b n x y : Int) (ts : List Tear) (A : Option Addr) (c : Nat) (w : World) : Calls Tryd.prog 55 #[.agg #[.int .i64 5, .int .i64 a, .int .i64 b, .int .i64 n, .int .i64 x, .int .i64 y, .slice A ts.length c]] w fun e w' => e = .returned (.agg #[.int .i64 5, .int .i64 a, .int .i64 b, .int .i64 n, .int .i64 0, .int .i64 0, .slice none 0 0]) ∧ Below w.heap.size w w' := by
  go_enter Tryd.func55, Tryd.ntmps55
  go_upto_region 2 with (fail)
  refine wp_world (B3 w w.heap.size (w.heap.size + 1) (w.heap.size + 1 + 1) ⟨5, a, b, n, x, y, ts⟩ ⟨5, a, 0, 0, 0, 0, []⟩ (.slice A ts.length c)) (b3_new _ _ _ _ _ _ _ rfl rfl rfl) ?_
  obtain ⟨g1, hg1⟩ : ∃ g1, w.heap.size = g1 := ⟨_, rfl⟩
  obtain ⟨gr, hgr⟩ : ∃ gr, w.heap.size + 1 = gr := ⟨_, rfl⟩
  obtain ⟨g3, hg3⟩ : ∃ g3, gr + 1 = g3 := ⟨_, rfl⟩
  rw [hgr, hg3, hg1]
  clear hg1 hgr hg3
  intro w3 hs
  have HS := Aside0.mk hs
  clear hs
  obtain ⟨r0, r1, r2, r3, r4, r5, r6⟩ := HS.out.cr.all
  obtain ⟨f0, f1, f2, f3, f4, f5, f6⟩ := HS.out.cr.frz
  obtain ⟨s0, s1, s2, s3, s4, s5, s6⟩ := HS.out.c3.all
  obtain ⟨e0, e1, e2, e3, e4, e5, e6⟩ := HS.out.c3.frz
  obtain ⟨c0, c1, c2, c3, c4, c5, c6⟩ := HS.out.c1.all
  have n1 : gr ≠ g3 := HS.out.n1
  have n2 : g1 ≠ g3 := HS.out.n2
  simp only [zAct] at s0 s1 s2 s3 s4 s5 s6 c0 c1 c2 c3 c4 c5 c6
  go_upto_region 10 with (fail)
  go_region
  obtain ⟨w4, hw4⟩ : ∃ w4, ((w3.setCell ⟨g3, 2, none⟩ (.int .i64 b)).setCell ⟨g3, 3, none⟩ (.int .i64 n)).drew = w4 := ⟨_, rfl⟩
  rw [hw4]
  have HR4 : Aside0 (B60 w4 gr zAct (.slice none 0 0)) := ⟨by rw [← hw4]; exact blk_drew (blk_far (p := ⟨g3, 3, none⟩) (blk_far (p := ⟨g3, 2, none⟩) (HS.out.cr) HS.out.n1 (.int .i64 b)) HS.out.n1 (.int .i64 n))⟩
  have H34 : Aside0 (B60 w4 g3 (⟨5, a, b, n, 0, 0, []⟩ : Act) (.slice none 0 0)) := ⟨by rw [← hw4]; exact blk_drew (blk_put (blk_put (HS.out.c3) 2 (.int .i64 b) rfl) 3 (.int .i64 n) rfl)⟩
  have HB4 : Aside0 (Below w.heap.size w w4) := ⟨by rw [← hw4]; exact below_drew (below_set (below_set (HS.out.b) HS.out.e3 2 (.int .i64 b)) HS.out.e3 3 (.int .i64 n))⟩
  clear hw4 r0 r1 r2 r3 r4 r5 r6 f0 f1 f2 f3 f4 f5 f6 s0 s1 s2 s3 s4 s5 s6 e0 e1 e2 e3 e4 e5 e6 c0 c1 c2 c3 c4 c5 c6
  obtain ⟨r0, r1, r2, r3, r4, r5, r6⟩ := HR4.out.all
  obtain ⟨f0, f1, f2, f3, f4, f5, f6⟩ := HR4.out.frz
  obtain ⟨s0, s1, s2, s3, s4, s5, s6⟩ := H34.out.all
  simp only [zAct] at s0 s1 s2 s3 s4 s5 s6
  have HP := Aside0.mk (put7_blk (HR4.out) (⟨5, a, b, n, 0, 0, []⟩ : Act) (.slice none 0 0))
  have HW := Aside0.mk (put7_below (HB4.out) HS.out.er (⟨5, a, b, n, 0, 0, []⟩ : Act) (.slice none 0 0))
  go_wp2
  refine bodyPost_ret (results_cell_row rfl _ _ gr 60 #[.int .i64 5, .int .i64 a, .int .i64 b, .int .i64 n, .int .i64 0, .int .i64 0, .slice none 0 0] (0, 0) _ rfl HP.out Tryd.underlying60 rfl (by kernel_rfl)) rfl ?_
  exact ⟨rfl, HW.out⟩
set_option maxHeartbeats 1600000 in
set_option maxRecDepth 100000 in
theorem bare_6 (a b n x y : Int) (ts : List Tear) (A : Option Addr) (c : Nat) (w : World) : Calls Tryd.prog 55 #[.agg #[.int .i64 6, .int .i64 a, .int .i64 b, .int .i64 n, .int .i64 x, .int .i64 y, .slice A ts.length c]] w fun e w' => e = .returned (.agg #[.int .i64 6, .int .i64 a, .int .i64 b, .int .i64 n, .int .i64 0, .int .i64 0, .slice none 0 0]) ∧ Below w.heap.size w w' := by
  go_enter Tryd.func55, Tryd.ntmps55
  go_upto_region 2 with (fail)
  refine wp_world (B3 w w.heap.size (w.heap.size + 1) (w.heap.size + 1 + 1) ⟨6, a, b, n, x, y, ts⟩ ⟨6, a, 0, 0, 0, 0, []⟩ (.slice A ts.length c)) (b3_new _ _ _ _ _ _ _ rfl rfl rfl) ?_
  obtain ⟨g1, hg1⟩ : ∃ g1, w.heap.size = g1 := ⟨_, rfl⟩
  obtain ⟨gr, hgr⟩ : ∃ gr, w.heap.size + 1 = gr := ⟨_, rfl⟩
  obtain ⟨g3, hg3⟩ : ∃ g3, gr + 1 = g3 := ⟨_, rfl⟩
  rw [hgr, hg3, hg1]
  clear hg1 hgr hg3
  intro w3 hs
  have HS := Aside0.mk hs
  clear hs
  obtain ⟨r0, r1, r2, r3, r4, r5, r6⟩ := HS.out.cr.all
  obtain ⟨f0, f1, f2, f3, f4, f5, f6⟩ := HS.out.cr.frz
  obtain ⟨s0, s1, s2, s3, s4, s5, s6⟩ := HS.out.c3.all
  obtain ⟨e0, e1, e2, e3, e4, e5, e6⟩ := HS.out.c3.frz
  obtain ⟨c0, c1, c2, c3, c4, c5, c6⟩ := HS.out.c1.all
  have n1 : gr ≠ g3 := HS.out.n1
  have n2 : g1 ≠ g3 := HS.out.n2
  simp only [zAct] at s0 s1 s2 s3 s4 s5 s6 c0 c1 c2 c3 c4 c5 c6
  go_upto_region 10 with (fail)
  go_region
  obtain ⟨w4, hw4⟩ : ∃ w4, ((w3.setCell ⟨g3, 2, none⟩ (.int .i64 b)).setCell ⟨g3, 3, none⟩ (.int .i64 n)).drew = w4 := ⟨_, rfl⟩
  rw [hw4]
  have HR4 : Aside0 (B60 w4 gr zAct (.slice none 0 0)) := ⟨by rw [← hw4]; exact blk_drew (blk_far (p := ⟨g3, 3, none⟩) (blk_far (p := ⟨g3, 2, none⟩) (HS.out.cr) HS.out.n1 (.int .i64 b)) HS.out.n1 (.int .i64 n))⟩
  have H34 : Aside0 (B60 w4 g3 (⟨6, a, b, n, 0, 0, []⟩ : Act) (.slice none 0 0)) := ⟨by rw [← hw4]; exact blk_drew (blk_put (blk_put (HS.out.c3) 2 (.int .i64 b) rfl) 3 (.int .i64 n) rfl)⟩
  have HB4 : Aside0 (Below w.heap.size w w4) := ⟨by rw [← hw4]; exact below_drew (below_set (below_set (HS.out.b) HS.out.e3 2 (.int .i64 b)) HS.out.e3 3 (.int .i64 n))⟩
  clear hw4 r0 r1 r2 r3 r4 r5 r6 f0 f1 f2 f3 f4 f5 f6 s0 s1 s2 s3 s4 s5 s6 e0 e1 e2 e3 e4 e5 e6 c0 c1 c2 c3 c4 c5 c6
  obtain ⟨r0, r1, r2, r3, r4, r5, r6⟩ := HR4.out.all
  obtain ⟨f0, f1, f2, f3, f4, f5, f6⟩ := HR4.out.frz
  obtain ⟨s0, s1, s2, s3, s4, s5, s6⟩ := H34.out.all
  simp only [zAct] at s0 s1 s2 s3 s4 s5 s6
  have HP := Aside0.mk (put7_blk (HR4.out) (⟨6, a, b, n, 0, 0, []⟩ : Act) (.slice none 0 0))
  have HW := Aside0.mk (put7_below (HB4.out) HS.out.er (⟨6, a, b, n, 0, 0, []⟩ : Act) (.slice none 0 0))
  go_wp2
  refine bodyPost_ret (results_cell_row rfl _ _ gr 60 #[.int .i64 6, .int .i64 a, .int .i64 b, .int .i64 n, .int .i64 0, .int .i64 0, .slice none 0 0] (0, 0) _ rfl HP.out Tryd.underlying60 rfl (by kernel_rfl)) rfl ?_
  exact ⟨rfl, HW.out⟩
set_option maxHeartbeats 1600000 in
set_option maxRecDepth 100000 in
theorem bare_7 (a b n x y : Int) (ts : List Tear) (A : Option Addr) (c : Nat) (w : World) : Calls Tryd.prog 55 #[.agg #[.int .i64 7, .int .i64 a, .int .i64 b, .int .i64 n, .int .i64 x, .int .i64 y, .slice A ts.length c]] w fun e w' => e = .returned (.agg #[.int .i64 7, .int .i64 a, .int .i64 b, .int .i64 n, .int .i64 0, .int .i64 0, .slice none 0 0]) ∧ Below w.heap.size w w' := by
  go_enter Tryd.func55, Tryd.ntmps55
  go_upto_region 2 with (fail)
  refine wp_world (B3 w w.heap.size (w.heap.size + 1) (w.heap.size + 1 + 1) ⟨7, a, b, n, x, y, ts⟩ ⟨7, a, 0, 0, 0, 0, []⟩ (.slice A ts.length c)) (b3_new _ _ _ _ _ _ _ rfl rfl rfl) ?_
  obtain ⟨g1, hg1⟩ : ∃ g1, w.heap.size = g1 := ⟨_, rfl⟩
  obtain ⟨gr, hgr⟩ : ∃ gr, w.heap.size + 1 = gr := ⟨_, rfl⟩
  obtain ⟨g3, hg3⟩ : ∃ g3, gr + 1 = g3 := ⟨_, rfl⟩
  rw [hgr, hg3, hg1]
  clear hg1 hgr hg3
  intro w3 hs
  have HS := Aside0.mk hs
  clear hs
  obtain ⟨r0, r1, r2, r3, r4, r5, r6⟩ := HS.out.cr.all
  obtain ⟨f0, f1, f2, f3, f4, f5, f6⟩ := HS.out.cr.frz
  obtain ⟨s0, s1, s2, s3, s4, s5, s6⟩ := HS.out.c3.all
  obtain ⟨e0, e1, e2, e3, e4, e5, e6⟩ := HS.out.c3.frz
  obtain ⟨c0, c1, c2, c3, c4, c5, c6⟩ := HS.out.c1.all
  have n1 : gr ≠ g3 := HS.out.n1
  have n2 : g1 ≠ g3 := HS.out.n2
  simp only [zAct] at s0 s1 s2 s3 s4 s5 s6 c0 c1 c2 c3 c4 c5 c6
  go_upto_region 10 with (fail)
  go_region
  obtain ⟨w4, hw4⟩ : ∃ w4, ((w3.setCell ⟨g3, 2, none⟩ (.int .i64 b)).setCell ⟨g3, 3, none⟩ (.int .i64 n)).drew = w4 := ⟨_, rfl⟩
  rw [hw4]
  have HR4 : Aside0 (B60 w4 gr zAct (.slice none 0 0)) := ⟨by rw [← hw4]; exact blk_drew (blk_far (p := ⟨g3, 3, none⟩) (blk_far (p := ⟨g3, 2, none⟩) (HS.out.cr) HS.out.n1 (.int .i64 b)) HS.out.n1 (.int .i64 n))⟩
  have H34 : Aside0 (B60 w4 g3 (⟨7, a, b, n, 0, 0, []⟩ : Act) (.slice none 0 0)) := ⟨by rw [← hw4]; exact blk_drew (blk_put (blk_put (HS.out.c3) 2 (.int .i64 b) rfl) 3 (.int .i64 n) rfl)⟩
  have HB4 : Aside0 (Below w.heap.size w w4) := ⟨by rw [← hw4]; exact below_drew (below_set (below_set (HS.out.b) HS.out.e3 2 (.int .i64 b)) HS.out.e3 3 (.int .i64 n))⟩
  clear hw4 r0 r1 r2 r3 r4 r5 r6 f0 f1 f2 f3 f4 f5 f6 s0 s1 s2 s3 s4 s5 s6 e0 e1 e2 e3 e4 e5 e6 c0 c1 c2 c3 c4 c5 c6
  obtain ⟨r0, r1, r2, r3, r4, r5, r6⟩ := HR4.out.all
  obtain ⟨f0, f1, f2, f3, f4, f5, f6⟩ := HR4.out.frz
  obtain ⟨s0, s1, s2, s3, s4, s5, s6⟩ := H34.out.all
  simp only [zAct] at s0 s1 s2 s3 s4 s5 s6
  have HP := Aside0.mk (put7_blk (HR4.out) (⟨7, a, b, n, 0, 0, []⟩ : Act) (.slice none 0 0))
  have HW := Aside0.mk (put7_below (HB4.out) HS.out.er (⟨7, a, b, n, 0, 0, []⟩ : Act) (.slice none 0 0))
  go_wp2
  refine bodyPost_ret (results_cell_row rfl _ _ gr 60 #[.int .i64 7, .int .i64 a, .int .i64 b, .int .i64 n, .int .i64 0, .int .i64 0, .slice none 0 0] (0, 0) _ rfl HP.out Tryd.underlying60 rfl (by kernel_rfl)) rfl ?_
  exact ⟨rfl, HW.out⟩
set_option maxHeartbeats 1600000 in
set_option maxRecDepth 100000 in
theorem bare_8 (a b n x y : Int) (ts : List Tear) (A : Option Addr) (c : Nat) (w : World) : Calls Tryd.prog 55 #[.agg #[.int .i64 8, .int .i64 a, .int .i64 b, .int .i64 n, .int .i64 x, .int .i64 y, .slice A ts.length c]] w fun e w' => e = .returned (.agg #[.int .i64 8, .int .i64 a, .int .i64 0, .int .i64 n, .int .i64 0, .int .i64 0, .slice none 0 0]) ∧ Below w.heap.size w w' := by
  go_enter Tryd.func55, Tryd.ntmps55
  go_upto_region 2 with (fail)
  refine wp_world (B3 w w.heap.size (w.heap.size + 1) (w.heap.size + 1 + 1) ⟨8, a, b, n, x, y, ts⟩ ⟨8, a, 0, 0, 0, 0, []⟩ (.slice A ts.length c)) (b3_new _ _ _ _ _ _ _ rfl rfl rfl) ?_
  obtain ⟨g1, hg1⟩ : ∃ g1, w.heap.size = g1 := ⟨_, rfl⟩
  obtain ⟨gr, hgr⟩ : ∃ gr, w.heap.size + 1 = gr := ⟨_, rfl⟩
  obtain ⟨g3, hg3⟩ : ∃ g3, gr + 1 = g3 := ⟨_, rfl⟩
  rw [hgr, hg3, hg1]
  clear hg1 hgr hg3
  intro w3 hs
  have HS := Aside0.mk hs
  clear hs
  obtain ⟨r0, r1, r2, r3, r4, r5, r6⟩ := HS.out.cr.all
  obtain ⟨f0, f1, f2, f3, f4, f5, f6⟩ := HS.out.cr.frz
  obtain ⟨s0, s1, s2, s3, s4, s5, s6⟩ := HS.out.c3.all
  obtain ⟨e0, e1, e2, e3, e4, e5, e6⟩ := HS.out.c3.frz
  obtain ⟨c0, c1, c2, c3, c4, c5, c6⟩ := HS.out.c1.all
  have n1 : gr ≠ g3 := HS.out.n1
  have n2 : g1 ≠ g3 := HS.out.n2
  simp only [zAct] at s0 s1 s2 s3 s4 s5 s6 c0 c1 c2 c3 c4 c5 c6
  have HP := Aside0.mk (put7_blk (blk_far (p := ⟨g3, 3, none⟩) (HS.out.cr) HS.out.n1 (.int .i64 n)) (⟨8, a, 0, n, 0, 0, []⟩ : Act) (.slice none 0 0))
  have HW := Aside0.mk (put7_below (below_set (HS.out.b) HS.out.e3 3 (.int .i64 n)) HS.out.er (⟨8, a, 0, n, 0, 0, []⟩ : Act) (.slice none 0 0))
  go_wp2
  refine bodyPost_ret (results_cell_row rfl _ _ gr 60 #[.int .i64 8, .int .i64 a, .int .i64 0, .int .i64 n, .int .i64 0, .int .i64 0, .slice none 0 0] (0, 0) _ rfl HP.out Tryd.underlying60 rfl (by kernel_rfl)) rfl ?_
  exact ⟨rfl, HW.out⟩
set_option maxHeartbeats 1600000 in
set_option maxRecDepth 100000 in
theorem bare_9 (a b n x y : Int) (ts : List Tear) (A : Option Addr) (c : Nat) (w : World) : Calls Tryd.prog 55 #[.agg #[.int .i64 9, .int .i64 a, .int .i64 b, .int .i64 n, .int .i64 x, .int .i64 y, .slice A ts.length c]] w fun e w' => e = .returned (.agg #[.int .i64 9, .int .i64 a, .int .i64 0, .int .i64 0, .int .i64 0, .int .i64 0, .slice A ts.length c]) ∧ Below w.heap.size w w' := by
  go_enter Tryd.func55, Tryd.ntmps55
  go_upto_region 2 with (fail)
  refine wp_world (B3 w w.heap.size (w.heap.size + 1) (w.heap.size + 1 + 1) ⟨9, a, b, n, x, y, ts⟩ ⟨9, a, 0, 0, 0, 0, []⟩ (.slice A ts.length c)) (b3_new _ _ _ _ _ _ _ rfl rfl rfl) ?_
  obtain ⟨g1, hg1⟩ : ∃ g1, w.heap.size = g1 := ⟨_, rfl⟩
  obtain ⟨gr, hgr⟩ : ∃ gr, w.heap.size + 1 = gr := ⟨_, rfl⟩
  obtain ⟨g3, hg3⟩ : ∃ g3, gr + 1 = g3 := ⟨_, rfl⟩
  rw [hgr, hg3, hg1]
  clear hg1 hgr hg3
  intro w3 hs
  have HS := Aside0.mk hs
  clear hs
  obtain ⟨r0, r1, r2, r3, r4, r5, r6⟩ := HS.out.cr.all
  obtain ⟨f0, f1, f2, f3, f4, f5, f6⟩ := HS.out.cr.frz
  obtain ⟨s0, s1, s2, s3, s4, s5, s6⟩ := HS.out.c3.all
  obtain ⟨e0, e1, e2, e3, e4, e5, e6⟩ := HS.out.c3.frz
  obtain ⟨c0, c1, c2, c3, c4, c5, c6⟩ := HS.out.c1.all
  have n1 : gr ≠ g3 := HS.out.n1
  have n2 : g1 ≠ g3 := HS.out.n2
  simp only [zAct] at s0 s1 s2 s3 s4 s5 s6 c0 c1 c2 c3 c4 c5 c6
  have HP := Aside0.mk (put7_blk (blk_far (p := ⟨g3, 6, none⟩) (HS.out.cr) HS.out.n1 (.slice A ts.length c)) (⟨9, a, 0, 0, 0, 0, ts⟩ : Act) (.slice A ts.length c))
  have HW := Aside0.mk (put7_below (below_set (HS.out.b) HS.out.e3 6 (.slice A ts.length c)) HS.out.er (⟨9, a, 0, 0, 0, 0, ts⟩ : Act) (.slice A ts.length c))
  go_wp2
  refine bodyPost_ret (results_cell_row rfl _ _ gr 60 #[.int .i64 9, .int .i64 a, .int .i64 0, .int .i64 0, .int .i64 0, .int .i64 0, .slice A ts.length c] (0, 0) _ rfl HP.out Tryd.underlying60 rfl (by kernel_rfl)) rfl ?_
  exact ⟨rfl, HW.out⟩
set_option maxHeartbeats 1600000 in
set_option maxRecDepth 100000 in
theorem bare_0 (k : Int) (h2 : (k == 2) = false) (h3 : (k == 3) = false) (h5 : (k == 5) = false) (h6 : (k == 6) = false) (h7 : (k == 7) = false) (h8 : (k == 8) = false) (h9 : (k == 9) = false) (a b n x y : Int) (ts : List Tear) (A : Option Addr) (c : Nat) (w : World) : Calls Tryd.prog 55 #[.agg #[.int .i64 k, .int .i64 a, .int .i64 b, .int .i64 n, .int .i64 x, .int .i64 y, .slice A ts.length c]] w fun e w' => e = .returned (.agg #[.int .i64 k, .int .i64 a, .int .i64 0, .int .i64 0, .int .i64 0, .int .i64 0, .slice none 0 0]) ∧ Below w.heap.size w w' := by
  go_enter Tryd.func55, Tryd.ntmps55
  go_upto_region 2 with (fail)
  refine wp_world (B3 w w.heap.size (w.heap.size + 1) (w.heap.size + 1 + 1) ⟨k, a, b, n, x, y, ts⟩ ⟨k, a, 0, 0, 0, 0, []⟩ (.slice A ts.length c)) (b3_new _ _ _ _ _ _ _ rfl rfl rfl) ?_
  obtain ⟨g1, hg1⟩ : ∃ g1, w.heap.size = g1 := ⟨_, rfl⟩
  obtain ⟨gr, hgr⟩ : ∃ gr, w.heap.size + 1 = gr := ⟨_, rfl⟩
  obtain ⟨g3, hg3⟩ : ∃ g3, gr + 1 = g3 := ⟨_, rfl⟩
  rw [hgr, hg3, hg1]
  clear hg1 hgr hg3
  intro w3 hs
  have HS := Aside0.mk hs
  clear hs
  obtain ⟨r0, r1, r2, r3, r4, r5, r6⟩ := HS.out.cr.all
  obtain ⟨f0, f1, f2, f3, f4, f5, f6⟩ := HS.out.cr.frz
  obtain ⟨s0, s1, s2, s3, s4, s5, s6⟩ := HS.out.c3.all
  obtain ⟨e0, e1, e2, e3, e4, e5, e6⟩ := HS.out.c3.frz
  obtain ⟨c0, c1, c2, c3, c4, c5, c6⟩ := HS.out.c1.all
  have n1 : gr ≠ g3 := HS.out.n1
  have n2 : g1 ≠ g3 := HS.out.n2
  simp only [zAct] at s0 s1 s2 s3 s4 s5 s6 c0 c1 c2 c3 c4 c5 c6
  have HP := Aside0.mk (put7_blk (HS.out.cr) (⟨k, a, 0, 0, 0, 0, []⟩ : Act) (.slice none 0 0))
  have HW := Aside0.mk (put7_below (HS.out.b) HS.out.er (⟨k, a, 0, 0, 0, 0, []⟩ : Act) (.slice none 0 0))
  go_wp2
  refine bodyPost_ret (results_cell_row rfl _ _ gr 60 #[.int .i64 k, .int .i64 a, .int .i64 0, .int .i64 0, .int .i64 0, .int .i64 0, .slice none 0 0] (0, 0) _ rfl HP.out Tryd.underlying60 rfl (by kernel_rfl)) rfl ?_
  exact ⟨rfl, HW.out⟩
/-- What Bare leaves. -/
def BarePost (a : Act) (A : Option Addr) (c : Nat) (w : World) (e : Ending) (w' : World) : Prop := ∃ A2 c2, e = .returned (actV (bare a) (.slice A2 (bare a).t.length c2)) ∧ (∀ W, TK W (.slice A a.t.length c) a.t → TK W (.slice A2 (bare a).t.length c2) (bare a).t) ∧ Below w.heap.size w w'
theorem tk_nil (W : World) : TK W (.slice none 0 0) [] := TK.of_R (base := 0) (ok := fun _ => True) (Kd.R_nil _ _ _ _ _)
theorem bare_calls (a : Act) (A : Option Addr) (c : Nat) (w : World) : Calls Tryd.prog 55 #[actV a (.slice A a.t.length c)] w (BarePost a A c w) := by
  obtain ⟨k, a1, b1, n1, x1, y1, ts⟩ := a
  by_cases h2 : k = 2
  · subst h2; exact (bare_2 a1 b1 n1 x1 y1 ts A c w).mono fun e w' h => ⟨none, 0, h.1, fun W _ => tk_nil W, h.2⟩
  by_cases h3 : k = 3
  · subst h3; exact (bare_3 a1 b1 n1 x1 y1 ts A c w).mono fun e w' h => ⟨none, 0, h.1, fun W _ => tk_nil W, h.2⟩
  by_cases h5 : k = 5
  · subst h5; exact (bare_5 a1 b1 n1 x1 y1 ts A c w).mono fun e w' h => ⟨none, 0, h.1, fun W _ => tk_nil W, h.2⟩
  by_cases h6 : k = 6
  · subst h6; exact (bare_6 a1 b1 n1 x1 y1 ts A c w).mono fun e w' h => ⟨none, 0, h.1, fun W _ => tk_nil W, h.2⟩
  by_cases h7 : k = 7
  · subst h7; exact (bare_7 a1 b1 n1 x1 y1 ts A c w).mono fun e w' h => ⟨none, 0, h.1, fun W _ => tk_nil W, h.2⟩
  by_cases h8 : k = 8
  · subst h8; exact (bare_8 a1 b1 n1 x1 y1 ts A c w).mono fun e w' h => ⟨none, 0, h.1, fun W _ => tk_nil W, h.2⟩
  by_cases h9 : k = 9
  · subst h9; exact (bare_9 a1 b1 n1 x1 y1 ts A c w).mono fun e w' h => ⟨A, c, h.1, fun W h => h, h.2⟩
  have hb : bare ⟨k, a1, b1, n1, x1, y1, ts⟩ = ⟨k, a1, 0, 0, 0, 0, []⟩ := by
    unfold bare
    simp only [if_neg h2, if_neg h3, if_neg h8, if_neg h9, h5, h6, h7, or_self, if_false]
    rfl
  have q : ∀ {j : Int}, k ≠ j → (k == j) = false := fun h => beq_eq_false_iff_ne.2 h
  refine (bare_0 k (q h2) (q h3) (q h5) (q h6) (q h7) (q h8) (q h9) a1 b1 n1 x1 y1 ts A c w).mono fun e w' h => ⟨none, 0, ?_, ?_, h.2⟩
  · rw [hb]; exact h.1
  · rw [hb]; exact fun W _ => tk_nil W
end Go.Proofs.YtagpkphehkfjgaaDoor.Sc

namespace Go.Proofs.YtagpkphehkfjgaaDoor.Sc
open Go.RowKit Go.Proofs.YtagpkphehkfjgaaDoorW.PrintWords Go.Proofs.YtagpkphehkfjgaaDoorW.PrintLast Go.Proofs.YtagpkphehkfjgaaDoorW.PrintMore Go.Proofs.YtagpkphehkfjgaaDoor.Px
instance : DecidableEq Tear := fun s t => decidable_of_iff (s.k = t.k ∧ s.b = t.b) (by cases s; cases t; simp)
instance : DecidableEq Act := fun a b => decidable_of_iff (a.k = b.k ∧ a.a = b.a ∧ a.b = b.b ∧ a.n = b.n ∧ a.x = b.x ∧ a.y = b.y ∧ a.t = b.t) (by cases a; cases b; simp)
/-- Tears not too great. -/
structure TB (ts : List Tear) : Prop where
  l : ts.length ≤ 100000
  b : ∀ t ∈ ts, t.b.length ≤ 100000
theorem o2_new (w : World) (a b : Act) (v u : Value) (o1 o2 : Obj) (h1 : o1 = .cells #[.int .i64 a.k, .int .i64 a.a, .int .i64 a.b, .int .i64 a.n, .int .i64 a.x, .int .i64 a.y, v] 60) (h2 : o2 = .cells #[.int .i64 b.k, .int .i64 b.a, .int .i64 b.b, .int .i64 b.n, .int .i64 b.x, .int .i64 b.y, u] 60) : B60 ((w.alloc o1).alloc o2) w.heap.size a v ∧ B60 ((w.alloc o1).alloc o2) (w.heap.size + 1) b u := by
  have e1 : ∀ (w : World) (o : Obj), (w.alloc o).heap.size = w.heap.size + 1 := fun w o => by simp
  have h := blk_new (w.alloc o1) o2
  rw [e1] at h
  subst h1 h2
  exact ⟨blk_alloc (blk_new w _) _, h⟩
/-- Two acts that are read. -/
structure O2 (w : World) (g1 g2 : Nat) (a b : Act) (v u : Value) (W : World) : Prop where
  c1 : B60 W g1 a v
  c2 : B60 W g2 b u
  t1 : TK W v a.t
  t2 : TK W u b.t
  bl : Below w.heap.size w W
theorem O2.below {w W W' : World} {g1 g2 : Nat} {a b : Act} {v u : Value} (h : O2 w g1 g2 a b v u W) (hb : Below W.heap.size W W') : O2 w g1 g2 a b v u W' :=
  ⟨blk_below h.c1 hb, blk_below h.c2 hb, h.t1.below hb, h.t2.below hb, below_step h.bl hb⟩
theorem neq_t {a b : Int} (h : a ≠ b) : (a != b) = true := by rw [bne_iff_ne]; exact h
theorem neq_f {a b : Int} (h : a = b) : (a != b) = false := by rw [h]; simp
theorem eqi_t {a b : Int} (h : a = b) : (a == b) = true := by rw [h]; simp
theorem eqi_f {a b : Int} (h : a ≠ b) : (a == b) = false := by rw [beq_eq_false_iff_ne]; exact h
theorem keep_o6 {w1 W W' : World} {a0 a1 a2 a3 a4 a5 : Addr} {v0 v1 v2 v3 v4 v5 : Value} (h : (W.cell? a0 = some v0 ∧ W.cell? a1 = some v1 ∧ W.cell? a2 = some v2 ∧ W.cell? a3 = some v3 ∧ W.cell? a4 = some v4 ∧ W.cell? a5 = some v5) ∧ Aside0 (Below w1.heap.size w1 W)) (hb : Below W.heap.size W W') : (W'.cell? a0 = some v0 ∧ W'.cell? a1 = some v1 ∧ W'.cell? a2 = some v2 ∧ W'.cell? a3 = some v3 ∧ W'.cell? a4 = some v4 ∧ W'.cell? a5 = some v5) ∧ Aside0 (Below w1.heap.size w1 W') :=
  ⟨⟨pw_cell_below hb h.1.1, pw_cell_below hb h.1.2.1, pw_cell_below hb h.1.2.2.1, pw_cell_below hb h.1.2.2.2.1, pw_cell_below hb h.1.2.2.2.2.1, pw_cell_below hb h.1.2.2.2.2.2⟩, ⟨below_step h.2.out hb⟩⟩
theorem add_off (ad : Addr) (i : Nat) : (⟨(ad.add i).block, (ad.add i).off + 1, none⟩ : Addr) = ad.add (i + 1) := by
  unfold Addr.add
  by_cases h : i = 0
  · subst h; simp
  · simp [h, Nat.add_assoc]
theorem bk_and {w1 W : World} {v : Value} {bl : List UInt8} {P : Prop} (h : BK w1 v bl) (hS : P ∧ Aside0 (Below w1.heap.size w1 W)) : BK W v bl := h.below hS.2.out
theorem tk_next {l m : List Tear} {k : Nat} {x y : Tear} (h : l.take k = m.take k) (h1 : l[k]? = some x) (h2 : m[k]? = some y) (he : x.k = y.k) (hb : x.b = y.b) : l.take (k + 1) = m.take (k + 1) := by
  have : x = y := by cases x; cases y; simp at he hb; rw [he, hb]
  rw [List.take_add_one, List.take_add_one, h, h1, h2, this]
set_option maxHeartbeats 1600000 in
set_option maxRecDepth 100000 in
theorem one_calls (a b : Act) (A B : Option Addr) (c d : Nat) (w : World) (h1 : TK w (.slice A a.t.length c) a.t) (h2 : TK w (.slice B b.t.length d) b.t) (hx : TB a.t) (hy : TB b.t) : Calls Tryd.prog 45 #[actV a (.slice A a.t.length c), actV b (.slice B b.t.length d)] w fun e w' => e = .returned (.bool (decide (a = b))) ∧ Below w.heap.size w w' := by
  obtain ⟨k, a1, b1, n1, x1, y1, ts⟩ := a
  obtain ⟨j, a2, b2, n2, x2, y2, us⟩ := b
  have HT1 := Aside0.mk h1
  have HT2 := Aside0.mk h2
  have HTB := Aside0.mk hx
  have HUB := Aside0.mk hy
  have hl1 : ts.length ≤ 100000 := hx.l
  have hl2 : us.length ≤ 100000 := hy.l
  clear h1 h2 hx hy
  obtain ⟨D, hD⟩ : ∃ D, decide ((⟨k, a1, b1, n1, x1, y1, ts⟩ : Act) = ⟨j, a2, b2, n2, x2, y2, us⟩) = D := ⟨_, rfl⟩
  rw [hD]
  have HD := Aside0.mk hD
  clear hD
  go_enter Tryd.func45, Tryd.ntmps45
  go_upto_region 1 with (fail)
  refine wp_world (O2 w w.heap.size (w.heap.size + 1) ⟨k, a1, b1, n1, x1, y1, ts⟩ ⟨j, a2, b2, n2, x2, y2, us⟩ (.slice A ts.length c) (.slice B us.length d)) (by
    have h := o2_new w ⟨k, a1, b1, n1, x1, y1, ts⟩ ⟨j, a2, b2, n2, x2, y2, us⟩ (.slice A ts.length c) (.slice B us.length d) _ _ rfl rfl
    have hb := below_alloc (below_alloc (Below.refl w.heap.size w) (.cells #[.int .i64 k, .int .i64 a1, .int .i64 b1, .int .i64 n1, .int .i64 x1, .int .i64 y1, .slice A ts.length c] 60)) (.cells #[.int .i64 j, .int .i64 a2, .int .i64 b2, .int .i64 n2, .int .i64 x2, .int .i64 y2, .slice B us.length d] 60)
    exact ⟨h.1, h.2, HT1.out.below hb, HT2.out.below hb, hb⟩) ?_
  obtain ⟨g1, hg1⟩ : ∃ g1, w.heap.size = g1 := ⟨_, rfl⟩
  obtain ⟨g2, hg2⟩ : ∃ g2, w.heap.size + 1 = g2 := ⟨_, rfl⟩
  rw [hg2, hg1]
  clear hg1 hg2 HT1 HT2
  intro w3 ho
  have HO := Aside0.mk ho
  have HL1 := Aside0.mk hl1
  have HL2 := Aside0.mk hl2
  clear ho hl1 hl2
  obtain ⟨r0, r1, r2, r3, r4, r5, r6⟩ := HO.out.c1.all
  obtain ⟨s0, s1, s2, s3, s4, s5, s6⟩ := HO.out.c2.all
  simp only [] at r0 r1 r2 r3 r4 r5 r6 s0 s1 s2 s3 s4 s5 s6
  by_cases z0 : k = j
  case neg =>
    have p0 := neq_t z0
    have p1 := eqi_f z0
    have HF : Aside0 (D = false) := ⟨by rw [← HD.out]; exact decide_eq_false (fun e => z0 (by injection e))⟩
    clear z0
    go_wp2
    go_ret
    exact ⟨by rw [HF.out]; rfl, HO.out.bl⟩
  have p0a := neq_f z0
  have p0b := eqi_t z0
  have Z0 := Aside0.mk z0
  clear z0
  by_cases z1 : a1 = a2
  case neg =>
    have p0 := neq_t z1
    have p1 := eqi_f z1
    have HF : Aside0 (D = false) := ⟨by rw [← HD.out]; exact decide_eq_false (fun e => z1 (by injection e))⟩
    clear z1
    go_wp2
    go_ret
    exact ⟨by rw [HF.out]; rfl, HO.out.bl⟩
  have p1a := neq_f z1
  have p1b := eqi_t z1
  have Z1 := Aside0.mk z1
  clear z1
  by_cases z2 : b1 = b2
  case neg =>
    have p0 := neq_t z2
    have p1 := eqi_f z2
    have HF : Aside0 (D = false) := ⟨by rw [← HD.out]; exact decide_eq_false (fun e => z2 (by injection e))⟩
    clear z2
    go_wp2
    go_ret
    exact ⟨by rw [HF.out]; rfl, HO.out.bl⟩
  have p2a := neq_f z2
  have p2b := eqi_t z2
  have Z2 := Aside0.mk z2
  clear z2
  by_cases z3 : n1 = n2
  case neg =>
    have p0 := neq_t z3
    have p1 := eqi_f z3
    have HF : Aside0 (D = false) := ⟨by rw [← HD.out]; exact decide_eq_false (fun e => z3 (by injection e))⟩
    clear z3
    go_wp2
    go_ret
    exact ⟨by rw [HF.out]; rfl, HO.out.bl⟩
  have p3a := neq_f z3
  have p3b := eqi_t z3
  have Z3 := Aside0.mk z3
  clear z3
  by_cases z4 : x1 = x2
  case neg =>
    have p0 := neq_t z4
    have p1 := eqi_f z4
    have HF : Aside0 (D = false) := ⟨by rw [← HD.out]; exact decide_eq_false (fun e => z4 (by injection e))⟩
    clear z4
    go_wp2
    go_ret
    exact ⟨by rw [HF.out]; rfl, HO.out.bl⟩
  have p4a := neq_f z4
  have p4b := eqi_t z4
  have Z4 := Aside0.mk z4
  clear z4
  by_cases z5 : y1 = y2
  case neg =>
    have p0 := neq_t z5
    have p1 := eqi_f z5
    have HF : Aside0 (D = false) := ⟨by rw [← HD.out]; exact decide_eq_false (fun e => z5 (by injection e))⟩
    clear z5
    go_wp2
    go_ret
    exact ⟨by rw [HF.out]; rfl, HO.out.bl⟩
  have p5a := neq_f z5
  have p5b := eqi_t z5
  have Z5 := Aside0.mk z5
  clear z5
  by_cases z6 : ts.length = us.length
  case neg =>
    have p0 : ((ts.length : Int) != (us.length : Int)) = true := neq_t (by omega)
    have p1 : ((ts.length : Int) == (us.length : Int)) = false := eqi_f (by omega)
    have HF : Aside0 (D = false) := ⟨by rw [← HD.out]; exact decide_eq_false (fun e => z6 (by injection e with _ _ _ _ _ _ e; rw [e]))⟩
    clear z6
    go_wp2
    go_ret
    exact ⟨by rw [HF.out]; rfl, HO.out.bl⟩
  have p6a : ((ts.length : Int) != (us.length : Int)) = false := neq_f (by omega)
  have p6b : ((ts.length : Int) == (us.length : Int)) = true := eqi_t (by omega)
  have Z6 := Aside0.mk z6
  clear z6
  go_wp2
  clear p0a p0b p1a p1b p2a p2b p3a p3b p4a p4b p5a p5b p6a p6b r0 r1 r2 r3 r4 r5 r6 s0 s1 s2 s3 s4 s5 s6
  go_loopw [5] (fun v5 W => ∃ i : Nat, i ≤ ts.length ∧ v5 = .int .i64 i ∧ Aside0 (ts.take i = us.take i) ∧ Aside0 (O2 w g1 g2 ⟨k, a1, b1, n1, x1, y1, ts⟩ ⟨j, a2, b2, n2, x2, y2, us⟩ (.slice A ts.length c) (.slice B us.length d) W)) (fun v5 _ => ts.length - (intOf v5).toNat)
  case atStart => exact ⟨0, Nat.zero_le _, rfl, ⟨by simp⟩, HO⟩
  case round =>
    clear HO
    obtain ⟨i, hi, rfl, HT, HO⟩ := hrel
    have hl := HL1.out
    have hml := Z6.out
    have c6 := HO.out.c1.c6
    have d6 := HO.out.c2.c6
    by_cases hlt : i < ts.length
    · have d0 : decide ((i : Int) < (ts.length : Int)) = true := decide_eq_true (by omega)
      obtain ⟨ad, cc, t, tv, e1, _, ht, ct0, ct1, bt⟩ := HO.out.t1.at hlt
      obtain ⟨bd, dd, u, uv, e2, _, hu, cu0, cu1, bu⟩ := HO.out.t2.at (k := i) (by simp only []; omega)
      injection e1 with e1 _ e3
      injection e2 with e2 _ e4
      subst e1 e2 e3 e4
      have hk1 : (i : Int) < (ts.length : Int) := by omega
      have hk2 : (i : Int) < (us.length : Int) := by omega
      have hk3 : (i : Int) ≤ 1000000 := by omega
      have HTT := Aside0.mk ht
      have HUU := Aside0.mk hu
      have HBT := Aside0.mk bt
      have HBU := Aside0.mk bu
      have HTBL : Aside0 (t.b.length ≤ 1000000) := ⟨by have := HTB.out.b t (List.mem_of_getElem? ht); omega⟩
      have HUBL : Aside0 (u.b.length ≤ 1000000) := ⟨by have := HUB.out.b u (List.mem_of_getElem? hu); omega⟩
      clear ht hu bt bu hml
      by_cases hk : t.k = u.k
      · have q1 := neq_f hk
        have q2 := eqi_t hk
        obtain ⟨S, hS⟩ : ∃ S, decide (t.b = u.b) = S := ⟨_, rfl⟩
        have HSS := Aside0.mk hS
        have HKE := Aside0.mk hk
        clear hS hk
        go_upto_region 6 with (fail)
        rw [← add_off] at ct1 cu1
        go_region_held3 (fun W => (W.cell? ⟨g1, 6, none⟩ = some (.slice (some ad) ts.length c) ∧ W.cell? ⟨g2, 6, none⟩ = some (.slice (some bd) us.length d) ∧ W.cell? (ad.add (i * 2)) = some (.int .i64 t.k) ∧ W.cell? ⟨(ad.add (i * 2)).block, (ad.add (i * 2)).off + 1, none⟩ = some tv ∧ W.cell? (bd.add (i * 2)) = some (.int .i64 u.k) ∧ W.cell? ⟨(bd.add (i * 2)).block, (bd.add (i * 2)).off + 1, none⟩ = some uv) ∧ Aside0 (Below wr.heap.size wr W))
          ((first | (with_reducible assumption) | exact ⟨⟨c6, d6, ct0, ct1, cu0, cu1⟩, ⟨below_drew (Below.refl _ _)⟩⟩ | exact ⟨⟨c6, d6, ct0, ct1, cu0, cu1⟩, ⟨Below.refl _ _⟩⟩))
          (first | (go_at_call 67; (with_reducible refine (same01_calls tv uv t.b u.b _ (bk_and HBT.out (by with_reducible assumption)) (bk_and HBU.out (by with_reducible assumption)) HTBL.out HUBL.out).mono ?_); rintro e w' ⟨rfl, hb⟩; rw [HSS.out]; have hS' := keep_o6 (by with_reducible assumption) hb))
        have HO2 := Aside0.mk (HO.out.below hS'.2.out)
        clear hS' c6 d6 ct0 ct1 cu0 cu1 q1 q2
        cases S
        · have HF : Aside0 (D = false) := ⟨by
            rw [← HD.out]
            exact decide_eq_false (fun e => (of_decide_eq_false HSS.out) (by
              injection e with _ _ _ _ _ _ e
              have h1 := HTT.out
              simp only [e, HUU.out] at h1
              injection h1 with h1
              rw [h1]))⟩
          go_wp2
          go_ret
          exact ⟨by rw [HF.out]; rfl, HO2.out.bl⟩
        · have HT2 : Aside0 (ts.take (i + 1) = us.take (i + 1)) := ⟨tk_next HT.out HTT.out HUU.out HKE.out (of_decide_eq_true HSS.out)⟩
          go_wp2
          go_roundw
          case rel => exact ⟨i + 1, by omega, by go_num, HT2, HO2⟩
          case measure => simp [intOf]; omega
      · have q1 := neq_t hk
        have q2 := eqi_f hk
        have HF : Aside0 (D = false) := ⟨by
          rw [← HD.out]
          exact decide_eq_false (fun e => hk (by
            injection e with _ _ _ _ _ _ e
            have h1 := HTT.out
            simp only [e, HUU.out] at h1
            injection h1 with h1
            rw [h1]))⟩
        clear hk
        go_upto_region 6 with (fail)
        go_quiet (fail)
        go_wp2
        go_ret
        exact ⟨by rw [HF.out]; rfl, pw_below_drewN HO.out.bl _⟩
    · obtain rfl : i = ts.length := by omega
      have d0 : decide ((ts.length : Int) < (ts.length : Int)) = false := decide_eq_false (by omega)
      have HF : Aside0 (D = true) := ⟨by
        rw [← HD.out]
        have h := HT.out
        rw [List.take_of_length_le (Nat.le_refl _), List.take_of_length_le (by omega)] at h
        exact decide_eq_true (by rw [Z0.out, Z1.out, Z2.out, Z3.out, Z4.out, Z5.out, h])⟩
      go_wp2
      go_ret
      exact ⟨by rw [HF.out]; rfl, HO.out.bl⟩
end Go.Proofs.YtagpkphehkfjgaaDoor.Sc
