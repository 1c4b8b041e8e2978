/- QueryApart, walked where it looks at nothing: for every input. -/
import Derived.Test.YthimnnnfgangbaaDoorQrS
set_option linter.unusedVariables false
set_option linter.unusedSimpArgs false
namespace Go.Proofs.YthimnnnfgangbaaDoor.Qr
open Go.RowKit Go.Proofs.YthimnnnfgangbaaDoorW.PrintWords Go.Proofs.YthimnnnfgangbaaDoorW.PrintLast Go.Proofs.YthimnnnfgangbaaDoorW.PrintMore
/-- The cells of a reply. -/
abbrev c27 (e n : Int) (R : Option Addr) (rl rc : Nat) (B : Option Addr) (bl bc : Nat) (S : Option Addr) (sl sc : Nat) : Array Value := #[.int .i64 e, .int .i64 n, .slice R rl rc, .slice B bl bc, .slice S sl sc]

set_option maxHeartbeats 3200000 in
set_option maxRecDepth 100000 in
theorem guard0 (e n : Int) (R B S : Option Addr) (rl rc bl bc sl sc : Nat) (e2 n2 : Int) (R2 B2 S2 : Option Addr) (rl2 rc2 bl2 bc2 sl2 sc2 : Nat) (w : World) (ht : Tab w) (g0 :  40 < rl) :
    Calls Tryd.prog 5 #[.agg #[.int .i64 e, .int .i64 n, .slice R rl rc, .slice B bl bc, .slice S sl sc], .agg #[.int .i64 e2, .int .i64 n2, .slice R2 rl2 rc2, .slice B2 bl2 bc2, .slice S2 sl2 sc2]] w fun r w' => r = .returned (.bool true) ∧ Below w.heap.size w w' := by
  have HT := Aside0.mk ht
  clear ht
  have f0 :  ((40 : Int) < (rl : Int)) := by omega
  clear g0
  go_enter Tryd.func5, Tryd.ntmps5
  go_wp2_with fail
  refine (awake_calls _ (tab_below HT.out (below_alloc (below_alloc (Below.refl _ _) _) _))).mono ?_
  rintro r w2 ⟨rfl, hb⟩
  have HB2 := Aside0.mk (below_step (below_alloc (below_alloc (Below.refl _ _) _) _) hb)
  clear hb
  go_wp2
  go_ret
  exact ⟨rfl, HB2.out⟩

set_option maxHeartbeats 3200000 in
set_option maxRecDepth 100000 in
theorem guard1 (e n : Int) (R B S : Option Addr) (rl rc bl bc sl sc : Nat) (e2 n2 : Int) (R2 B2 S2 : Option Addr) (rl2 rc2 bl2 bc2 sl2 sc2 : Nat) (w : World) (ht : Tab w) (g0 : ¬ 40 < rl) (g1 :  40 < rl2) :
    Calls Tryd.prog 5 #[.agg #[.int .i64 e, .int .i64 n, .slice R rl rc, .slice B bl bc, .slice S sl sc], .agg #[.int .i64 e2, .int .i64 n2, .slice R2 rl2 rc2, .slice B2 bl2 bc2, .slice S2 sl2 sc2]] w fun r w' => r = .returned (.bool true) ∧ Below w.heap.size w w' := by
  have HT := Aside0.mk ht
  clear ht
  have f0 : ¬ ((40 : Int) < (rl : Int)) := by omega
  have f1 :  ((40 : Int) < (rl2 : Int)) := by omega
  clear g0 g1
  go_enter Tryd.func5, Tryd.ntmps5
  go_wp2_with fail
  refine (awake_calls _ (tab_below HT.out (below_alloc (below_alloc (Below.refl _ _) _) _))).mono ?_
  rintro r w2 ⟨rfl, hb⟩
  have HB2 := Aside0.mk (below_step (below_alloc (below_alloc (Below.refl _ _) _) _) hb)
  clear hb
  go_wp2
  go_ret
  exact ⟨rfl, HB2.out⟩

set_option maxHeartbeats 3200000 in
set_option maxRecDepth 100000 in
theorem guard2 (e n : Int) (R B S : Option Addr) (rl rc bl bc sl sc : Nat) (e2 n2 : Int) (R2 B2 S2 : Option Addr) (rl2 rc2 bl2 bc2 sl2 sc2 : Nat) (w : World) (ht : Tab w) (g0 : ¬ 40 < rl) (g1 : ¬ 40 < rl2) (g2 :  40 < bl) :
    Calls Tryd.prog 5 #[.agg #[.int .i64 e, .int .i64 n, .slice R rl rc, .slice B bl bc, .slice S sl sc], .agg #[.int .i64 e2, .int .i64 n2, .slice R2 rl2 rc2, .slice B2 bl2 bc2, .slice S2 sl2 sc2]] w fun r w' => r = .returned (.bool true) ∧ Below w.heap.size w w' := by
  have HT := Aside0.mk ht
  clear ht
  have f0 : ¬ ((40 : Int) < (rl : Int)) := by omega
  have f1 : ¬ ((40 : Int) < (rl2 : Int)) := by omega
  have f2 :  ((40 : Int) < (bl : Int)) := by omega
  clear g0 g1 g2
  go_enter Tryd.func5, Tryd.ntmps5
  go_wp2_with fail
  refine (awake_calls _ (tab_below HT.out (below_alloc (below_alloc (Below.refl _ _) _) _))).mono ?_
  rintro r w2 ⟨rfl, hb⟩
  have HB2 := Aside0.mk (below_step (below_alloc (below_alloc (Below.refl _ _) _) _) hb)
  clear hb
  go_wp2
  go_ret
  exact ⟨rfl, HB2.out⟩

set_option maxHeartbeats 3200000 in
set_option maxRecDepth 100000 in
theorem guard3 (e n : Int) (R B S : Option Addr) (rl rc bl bc sl sc : Nat) (e2 n2 : Int) (R2 B2 S2 : Option Addr) (rl2 rc2 bl2 bc2 sl2 sc2 : Nat) (w : World) (ht : Tab w) (g0 : ¬ 40 < rl) (g1 : ¬ 40 < rl2) (g2 : ¬ 40 < bl) (g3 :  40 < bl2) :
    Calls Tryd.prog 5 #[.agg #[.int .i64 e, .int .i64 n, .slice R rl rc, .slice B bl bc, .slice S sl sc], .agg #[.int .i64 e2, .int .i64 n2, .slice R2 rl2 rc2, .slice B2 bl2 bc2, .slice S2 sl2 sc2]] w fun r w' => r = .returned (.bool true) ∧ Below w.heap.size w w' := by
  have HT := Aside0.mk ht
  clear ht
  have f0 : ¬ ((40 : Int) < (rl : Int)) := by omega
  have f1 : ¬ ((40 : Int) < (rl2 : Int)) := by omega
  have f2 : ¬ ((40 : Int) < (bl : Int)) := by omega
  have f3 :  ((40 : Int) < (bl2 : Int)) := by omega
  clear g0 g1 g2 g3
  go_enter Tryd.func5, Tryd.ntmps5
  go_wp2_with fail
  refine (awake_calls _ (tab_below HT.out (below_alloc (below_alloc (Below.refl _ _) _) _))).mono ?_
  rintro r w2 ⟨rfl, hb⟩
  have HB2 := Aside0.mk (below_step (below_alloc (below_alloc (Below.refl _ _) _) _) hb)
  clear hb
  go_wp2
  go_ret
  exact ⟨rfl, HB2.out⟩

set_option maxHeartbeats 3200000 in
set_option maxRecDepth 100000 in
theorem guard4 (e n : Int) (R B S : Option Addr) (rl rc bl bc sl sc : Nat) (e2 n2 : Int) (R2 B2 S2 : Option Addr) (rl2 rc2 bl2 bc2 sl2 sc2 : Nat) (w : World) (ht : Tab w) (g0 : ¬ 40 < rl) (g1 : ¬ 40 < rl2) (g2 : ¬ 40 < bl) (g3 : ¬ 40 < bl2) (g4 :  0 < sl) :
    Calls Tryd.prog 5 #[.agg #[.int .i64 e, .int .i64 n, .slice R rl rc, .slice B bl bc, .slice S sl sc], .agg #[.int .i64 e2, .int .i64 n2, .slice R2 rl2 rc2, .slice B2 bl2 bc2, .slice S2 sl2 sc2]] w fun r w' => r = .returned (.bool true) ∧ Below w.heap.size w w' := by
  have HT := Aside0.mk ht
  clear ht
  have f0 : ¬ ((40 : Int) < (rl : Int)) := by omega
  have f1 : ¬ ((40 : Int) < (rl2 : Int)) := by omega
  have f2 : ¬ ((40 : Int) < (bl : Int)) := by omega
  have f3 : ¬ ((40 : Int) < (bl2 : Int)) := by omega
  have f4 :  ((0 : Int) < (sl : Int)) := by omega
  clear g0 g1 g2 g3 g4
  go_enter Tryd.func5, Tryd.ntmps5
  go_wp2_with fail
  refine (awake_calls _ (tab_below HT.out (below_alloc (below_alloc (Below.refl _ _) _) _))).mono ?_
  rintro r w2 ⟨rfl, hb⟩
  have HB2 := Aside0.mk (below_step (below_alloc (below_alloc (Below.refl _ _) _) _) hb)
  clear hb
  go_wp2
  go_ret
  exact ⟨rfl, HB2.out⟩

set_option maxHeartbeats 3200000 in
set_option maxRecDepth 100000 in
theorem guard5 (e n : Int) (R B S : Option Addr) (rl rc bl bc sl sc : Nat) (e2 n2 : Int) (R2 B2 S2 : Option Addr) (rl2 rc2 bl2 bc2 sl2 sc2 : Nat) (w : World) (ht : Tab w) (g0 : ¬ 40 < rl) (g1 : ¬ 40 < rl2) (g2 : ¬ 40 < bl) (g3 : ¬ 40 < bl2) (g4 : ¬ 0 < sl) (g5 :  0 < sl2) :
    Calls Tryd.prog 5 #[.agg #[.int .i64 e, .int .i64 n, .slice R rl rc, .slice B bl bc, .slice S sl sc], .agg #[.int .i64 e2, .int .i64 n2, .slice R2 rl2 rc2, .slice B2 bl2 bc2, .slice S2 sl2 sc2]] w fun r w' => r = .returned (.bool true) ∧ Below w.heap.size w w' := by
  have HT := Aside0.mk ht
  clear ht
  have f0 : ¬ ((40 : Int) < (rl : Int)) := by omega
  have f1 : ¬ ((40 : Int) < (rl2 : Int)) := by omega
  have f2 : ¬ ((40 : Int) < (bl : Int)) := by omega
  have f3 : ¬ ((40 : Int) < (bl2 : Int)) := by omega
  have f4 : ¬ ((0 : Int) < (sl : Int)) := by omega
  have f5 :  ((0 : Int) < (sl2 : Int)) := by omega
  clear g0 g1 g2 g3 g4 g5
  go_enter Tryd.func5, Tryd.ntmps5
  go_wp2_with fail
  refine (awake_calls _ (tab_below HT.out (below_alloc (below_alloc (Below.refl _ _) _) _))).mono ?_
  rintro r w2 ⟨rfl, hb⟩
  have HB2 := Aside0.mk (below_step (below_alloc (below_alloc (Below.refl _ _) _) _) hb)
  clear hb
  go_wp2
  go_ret
  exact ⟨rfl, HB2.out⟩

set_option maxHeartbeats 3200000 in
set_option maxRecDepth 100000 in
theorem err0 (e n : Int) (R B S : Option Addr) (rl rc bl bc sl sc : Nat) (e2 n2 : Int) (R2 B2 S2 : Option Addr) (rl2 rc2 bl2 bc2 sl2 sc2 : Nat) (w : World) (ht : Tab w) (g0 : ¬ 40 < rl) (g1 : ¬ 40 < rl2) (g2 : ¬ 40 < bl) (g3 : ¬ 40 < bl2) (g4 : ¬ 0 < sl) (g5 : ¬ 0 < sl2) (h0 :  e < 0) :
    Calls Tryd.prog 5 #[.agg #[.int .i64 e, .int .i64 n, .slice R rl rc, .slice B bl bc, .slice S sl sc], .agg #[.int .i64 e2, .int .i64 n2, .slice R2 rl2 rc2, .slice B2 bl2 bc2, .slice S2 sl2 sc2]] w fun r w' => r = .returned (.bool true) ∧ Below w.heap.size w w' := by
  have HT := Aside0.mk ht
  clear ht
  have f0 : ¬ ((40 : Int) < (rl : Int)) := by omega
  have f1 : ¬ ((40 : Int) < (rl2 : Int)) := by omega
  have f2 : ¬ ((40 : Int) < (bl : Int)) := by omega
  have f3 : ¬ ((40 : Int) < (bl2 : Int)) := by omega
  have f4 : ¬ ((0 : Int) < (sl : Int)) := by omega
  have f5 : ¬ ((0 : Int) < (sl2 : Int)) := by omega
  clear g0 g1 g2 g3 g4 g5
  go_enter Tryd.func5, Tryd.ntmps5
  go_wp2_with fail
  refine (awake_calls _ (tab_below HT.out (below_alloc (below_alloc (Below.refl _ _) _) _))).mono ?_
  rintro r w2 ⟨rfl, hb⟩
  have HB2 := Aside0.mk (below_step (below_alloc (below_alloc (Below.refl _ _) _) _) hb)
  clear hb
  go_wp2
  go_ret
  exact ⟨rfl, HB2.out⟩

set_option maxHeartbeats 3200000 in
set_option maxRecDepth 100000 in
theorem err1 (e n : Int) (R B S : Option Addr) (rl rc bl bc sl sc : Nat) (e2 n2 : Int) (R2 B2 S2 : Option Addr) (rl2 rc2 bl2 bc2 sl2 sc2 : Nat) (w : World) (ht : Tab w) (g0 : ¬ 40 < rl) (g1 : ¬ 40 < rl2) (g2 : ¬ 40 < bl) (g3 : ¬ 40 < bl2) (g4 : ¬ 0 < sl) (g5 : ¬ 0 < sl2) (h0 : ¬ e < 0) (h1 :  10 < e) :
    Calls Tryd.prog 5 #[.agg #[.int .i64 e, .int .i64 n, .slice R rl rc, .slice B bl bc, .slice S sl sc], .agg #[.int .i64 e2, .int .i64 n2, .slice R2 rl2 rc2, .slice B2 bl2 bc2, .slice S2 sl2 sc2]] w fun r w' => r = .returned (.bool true) ∧ Below w.heap.size w w' := by
  have HT := Aside0.mk ht
  clear ht
  have f0 : ¬ ((40 : Int) < (rl : Int)) := by omega
  have f1 : ¬ ((40 : Int) < (rl2 : Int)) := by omega
  have f2 : ¬ ((40 : Int) < (bl : Int)) := by omega
  have f3 : ¬ ((40 : Int) < (bl2 : Int)) := by omega
  have f4 : ¬ ((0 : Int) < (sl : Int)) := by omega
  have f5 : ¬ ((0 : Int) < (sl2 : Int)) := by omega
  clear g0 g1 g2 g3 g4 g5
  go_enter Tryd.func5, Tryd.ntmps5
  go_wp2_with fail
  refine (awake_calls _ (tab_below HT.out (below_alloc (below_alloc (Below.refl _ _) _) _))).mono ?_
  rintro r w2 ⟨rfl, hb⟩
  have HB2 := Aside0.mk (below_step (below_alloc (below_alloc (Below.refl _ _) _) _) hb)
  clear hb
  go_wp2
  go_ret
  exact ⟨rfl, HB2.out⟩

set_option maxHeartbeats 3200000 in
set_option maxRecDepth 100000 in
theorem err2 (e n : Int) (R B S : Option Addr) (rl rc bl bc sl sc : Nat) (e2 n2 : Int) (R2 B2 S2 : Option Addr) (rl2 rc2 bl2 bc2 sl2 sc2 : Nat) (w : World) (ht : Tab w) (g0 : ¬ 40 < rl) (g1 : ¬ 40 < rl2) (g2 : ¬ 40 < bl) (g3 : ¬ 40 < bl2) (g4 : ¬ 0 < sl) (g5 : ¬ 0 < sl2) (h0 : ¬ e < 0) (h1 : ¬ 10 < e) (h2 :  e2 < 0) :
    Calls Tryd.prog 5 #[.agg #[.int .i64 e, .int .i64 n, .slice R rl rc, .slice B bl bc, .slice S sl sc], .agg #[.int .i64 e2, .int .i64 n2, .slice R2 rl2 rc2, .slice B2 bl2 bc2, .slice S2 sl2 sc2]] w fun r w' => r = .returned (.bool true) ∧ Below w.heap.size w w' := by
  have HT := Aside0.mk ht
  clear ht
  have f0 : ¬ ((40 : Int) < (rl : Int)) := by omega
  have f1 : ¬ ((40 : Int) < (rl2 : Int)) := by omega
  have f2 : ¬ ((40 : Int) < (bl : Int)) := by omega
  have f3 : ¬ ((40 : Int) < (bl2 : Int)) := by omega
  have f4 : ¬ ((0 : Int) < (sl : Int)) := by omega
  have f5 : ¬ ((0 : Int) < (sl2 : Int)) := by omega
  clear g0 g1 g2 g3 g4 g5
  go_enter Tryd.func5, Tryd.ntmps5
  go_wp2_with fail
  refine (awake_calls _ (tab_below HT.out (below_alloc (below_alloc (Below.refl _ _) _) _))).mono ?_
  rintro r w2 ⟨rfl, hb⟩
  have HB2 := Aside0.mk (below_step (below_alloc (below_alloc (Below.refl _ _) _) _) hb)
  clear hb
  go_wp2
  go_ret
  exact ⟨rfl, HB2.out⟩

set_option maxHeartbeats 3200000 in
set_option maxRecDepth 100000 in
theorem err3 (e n : Int) (R B S : Option Addr) (rl rc bl bc sl sc : Nat) (e2 n2 : Int) (R2 B2 S2 : Option Addr) (rl2 rc2 bl2 bc2 sl2 sc2 : Nat) (w : World) (ht : Tab w) (g0 : ¬ 40 < rl) (g1 : ¬ 40 < rl2) (g2 : ¬ 40 < bl) (g3 : ¬ 40 < bl2) (g4 : ¬ 0 < sl) (g5 : ¬ 0 < sl2) (h0 : ¬ e < 0) (h1 : ¬ 10 < e) (h2 : ¬ e2 < 0) (h3 :  10 < e2) :
    Calls Tryd.prog 5 #[.agg #[.int .i64 e, .int .i64 n, .slice R rl rc, .slice B bl bc, .slice S sl sc], .agg #[.int .i64 e2, .int .i64 n2, .slice R2 rl2 rc2, .slice B2 bl2 bc2, .slice S2 sl2 sc2]] w fun r w' => r = .returned (.bool true) ∧ Below w.heap.size w w' := by
  have HT := Aside0.mk ht
  clear ht
  have f0 : ¬ ((40 : Int) < (rl : Int)) := by omega
  have f1 : ¬ ((40 : Int) < (rl2 : Int)) := by omega
  have f2 : ¬ ((40 : Int) < (bl : Int)) := by omega
  have f3 : ¬ ((40 : Int) < (bl2 : Int)) := by omega
  have f4 : ¬ ((0 : Int) < (sl : Int)) := by omega
  have f5 : ¬ ((0 : Int) < (sl2 : Int)) := by omega
  clear g0 g1 g2 g3 g4 g5
  go_enter Tryd.func5, Tryd.ntmps5
  go_wp2_with fail
  refine (awake_calls _ (tab_below HT.out (below_alloc (below_alloc (Below.refl _ _) _) _))).mono ?_
  rintro r w2 ⟨rfl, hb⟩
  have HB2 := Aside0.mk (below_step (below_alloc (below_alloc (Below.refl _ _) _) _) hb)
  clear hb
  go_wp2
  go_ret
  exact ⟨rfl, HB2.out⟩

end Go.Proofs.YthimnnnfgangbaaDoor.Qr
