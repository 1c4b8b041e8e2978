/- The elect functions as Lean functions (printed by the kit), for every input. -/
import Derived.Test.YtdkobokdeofiiaaProg
import Derived.Below
import Derived.Deep.Draws
import Derived.Deep.AppendLies
import Derived.Maps.AppendAt
import Derived.OwnWalk
import Derived.Laws.BytesArg
import Derived.Laws.MakeOwn
import Derived.Laws.OwnMore
import Derived.Deep.OwnRows
import Derived.Tactics
import Derived.Lib.ConvBytes
import Derived.Laws.Slices
import Derived.WalkKit
import Derived.KernelRfl
import Derived.RowKit3
import Derived.Deep.LoopGhost
import Derived.Deep.QuietTactic
import Derived.BigQuiet
import Derived.WideLaws
import Derived.Deep.DeepCutAuto
import Derived.Deep.CutBlock
import Derived.Deep.RegionHeld3
import Derived.Laws.Rows
import Derived.Lib.AppendStr
import Derived.ArgAppend
import Derived.Laws.IdiomCopy
import Derived.OrdersHeld
import Derived.Laws.BitsLemmas
import Derived.RowKit
import Derived.Test.YtdkobokdeofiiaaWWords
import Derived.Test.YtdkobokdeofiiaaWLast
import Derived.Test.YtdkobokdeofiiaaWTab
import Derived.Test.YtdkobokdeofiiaaWFour
import Derived.Test.YtdkobokdeofiiaaWQPut
import Derived.Test.YtdkobokdeofiiaaWApart
import Derived.Test.YtdkobokdeofiiaaWArr
import Derived.Test.YtdkobokdeofiiaaWZeros
import Derived.Test.YtdkobokdeofiiaaWFoot
import Derived.Test.YtdkobokdeofiiaaWKept
import Derived.Test.YtdkobokdeofiiaaWShare
import Derived.Test.YtdkobokdeofiiaaWN
import Derived.Test.YtdkobokdeofiiaaWFootNe
import Derived.Test.YtdkobokdeofiiaaWAt
import Derived.Test.YtdkobokdeofiiaaWEqStruct
import Derived.Test.YtdkobokdeofiiaaWRepsOne
import Derived.Test.YtdkobokdeofiiaaWInv
import Derived.Test.YtdkobokdeofiiaaWInvWords
import Derived.Test.YtdkobokdeofiiaaWGuard
import Derived.Test.YtdkobokdeofiiaaWNEv
import Derived.Test.YtdkobokdeofiiaaWMore
set_option linter.unusedVariables false
set_option linter.unusedSimpArgs false
namespace Go.Proofs.Ytdkobokdeofiiaa.El
open Go.RowKit Go.Proofs.YtdkobokdeofiiaaW.PrintWords Go.Proofs.YtdkobokdeofiiaaW.PrintLast Go.Proofs.YtdkobokdeofiiaaW.PrintMore
attribute [local go_sem] max2_int min2_int max_two min_two max_three min_three max_four min_four




def errW : Option Int → Value
  | none => .nilIface
  | some c => .iface 0 (.int .i64 c)
theorem errW_none : errW none = .nilIface := rfl
theorem errW_some (c : Int) : errW (some c) = .iface 0 (.int .i64 c) := rfl

theorem info52 : (Try.prog.info? 52).map (fun i => (i.zero, i.size, i.bytes)) = some (some (.agg #[(.int .i64 0), (.int .i64 0), (.int .i64 0), (.int .i64 0)]), 4, 32) := by kernel_rfl
-- the values' own types
/-! #### struct type 52 -/
structure S52 where
  f0 : Int
  f1 : Int
  f2 : Int
  f3 : Int
def z52 : S52 := ⟨(0 : Int), (0 : Int), (0 : Int), (0 : Int)⟩
def k52 : Kd S52 := Kd.iso (Kd.pair (Kd.int .i64) (Kd.pair (Kd.int .i64) (Kd.pair (Kd.int .i64) (Kd.int .i64)))) (fun x : S52 => (x.f0, x.f1, x.f2, x.f3))
theorem k52_open {w : World} {x : S52} {cs : List Value} (h : k52.K w x cs) : cs = [.int .i64 x.f0, .int .i64 x.f1, .int .i64 x.f2, .int .i64 x.f3] := by
  obtain ⟨_, _, rfl, rfl, ⟨_, _, rfl, rfl, ⟨_, _, rfl, rfl, rfl⟩⟩⟩ := h
  exact rfl
theorem k52_openM {w : World} {base : Nat} {ok : Nat → Prop} {x : S52} {cs : List Value} (h : k52.M w base ok x cs) : cs = [.int .i64 x.f0, .int .i64 x.f1, .int .i64 x.f2, .int .i64 x.f3] := by
  obtain ⟨_, _, rfl, rfl, ⟨_, _, rfl, rfl, ⟨_, _, rfl, rfl, rfl⟩⟩⟩ := h
  exact rfl
theorem k52_mk (w : World) (x : S52)  : k52.K w x [.int .i64 x.f0, .int .i64 x.f1, .int .i64 x.f2, .int .i64 x.f3] := ⟨[.int .i64 x.f0], [.int .i64 x.f1, .int .i64 x.f2, .int .i64 x.f3], rfl, rfl, ⟨[.int .i64 x.f1], [.int .i64 x.f2, .int .i64 x.f3], rfl, rfl, ⟨[.int .i64 x.f2], [.int .i64 x.f3], rfl, rfl, rfl⟩⟩⟩
theorem k52_mkM (w : World) (base : Nat) (ok : Nat → Prop) (x : S52)  : k52.M w base ok x [.int .i64 x.f0, .int .i64 x.f1, .int .i64 x.f2, .int .i64 x.f3] := ⟨[.int .i64 x.f0], [.int .i64 x.f1, .int .i64 x.f2, .int .i64 x.f3], rfl, rfl, ⟨[.int .i64 x.f1], [.int .i64 x.f2, .int .i64 x.f3], rfl, rfl, ⟨[.int .i64 x.f2], [.int .i64 x.f3], rfl, rfl, rfl⟩⟩⟩
def rd_T52 (xs : List S52) (i : Int) : S52 := xs.getD i.toNat z52
theorem at_T52 {w : World} {A : Option Addr} {n : Nat} {xs : List S52} (h : Kd.C k52 w A n xs) (i : Int) (h0 : 0 ≤ i) (h1 : i < n) : ∃ ad , A = some ad ∧ w.cell? (ad.add (i.toNat * 4)) = some (.int .i64 (rd_T52 xs i).f0) ∧ w.cell? ⟨(ad.add (i.toNat * 4)).block, (ad.add (i.toNat * 4)).off + 1, none⟩ = some (.int .i64 (rd_T52 xs i).f1) ∧ w.cell? ⟨(ad.add (i.toNat * 4)).block, (ad.add (i.toNat * 4)).off + 2, none⟩ = some (.int .i64 (rd_T52 xs i).f2) ∧ w.cell? ⟨(ad.add (i.toNat * 4)).block, (ad.add (i.toNat * 4)).off + 3, none⟩ = some (.int .i64 (rd_T52 xs i).f3) := by
  obtain ⟨ad, c, e, _, hK, hc0⟩ := Kd.C_get h z52 i h0 h1
  have hc : ∀ j u, c[j]? = some u → w.cell? (ad.add (i.toNat * 4 + j)) = some u := hc0
  obtain rfl := k52_open hK
  exact ⟨ad, e, hc 0 _ rfl, by rw [← add_field _ _ 1 (by omega)]; exact hc 1 _ rfl, by rw [← add_field _ _ 2 (by omega)]; exact hc 2 _ rfl, by rw [← add_field _ _ 3 (by omega)]; exact hc 3 _ rfl⟩



theorem eqA52 (d : Nat) (w : World) (x0 y0 : Int) (x1 y1 : Int) (x2 y2 : Int) (x3 y3 : Int) :
    (Op.equalIn (d + 2) 52 (.agg #[.int .i64 x0, .int .i64 x1, .int .i64 x2, .int .i64 x3]) (.agg #[.int .i64 y0, .int .i64 y1, .int .i64 y2, .int .i64 y3])).run Try.prog w = .ok (x0 == y0 && (x1 == y1 && (x2 == y2 && (x3 == y3)))) w := by
  refine eqA_of Try.underlying52 (by kernel_rfl) ?_
  refine eqf_cons (by rfl) (by go_simp; rfl) (by go_simp; rfl) (by go_simp) ?_
  refine eqf_cons (by rfl) (by go_simp; rfl) (by go_simp; rfl) (by go_simp) ?_
  refine eqf_cons (by rfl) (by go_simp; rfl) (by go_simp; rfl) (by go_simp) ?_
  exact eqf_last (by rfl) (by go_simp; rfl) (by go_simp; rfl) (by go_simp)






attribute [local go_sem high] eqA52
/-! ### waymarkref55_May: function 29 -/
def waymarkref55_May.l0 : Nat → List (S52) → Int → Option (Bool)
  | 0, _, _ => none
  | k + 1, x0, x3 => if x3 < (x0.length : Int) then (if 0 ≤ x3 then (if ((rd_T52 x0 x3).f0) < 1 then (some false) else (if ((rd_T52 x0 x3).f0) > 64 then (some false) else (if ((rd_T52 x0 x3).f1) < 0 then (some false) else (if ((rd_T52 x0 x3).f1) > 255 then (some false) else (if ((rd_T52 x0 x3).f2) < 0 then (some false) else (if ((rd_T52 x0 x3).f2) > 64 then (some false) else (if ((rd_T52 x0 x3).f3) < 0 then (some false) else (if ((rd_T52 x0 x3).f3) > 64 then (some false) else (if x3 > 0 then (if 0 ≤ (wrap64 (x3 - 1)) then (if (wrap64 (x3 - 1)) < (x0.length : Int) then (if ((rd_T52 x0 (wrap64 (x3 - 1))).f0) ≥ ((rd_T52 x0 x3).f0) then (some false) else (waymarkref55_May.l0 k x0 (wrap64 (x3 + 1)))) else (none)) else (none)) else (waymarkref55_May.l0 k x0 (wrap64 (x3 + 1)))))))))))) else (none)) else (some true)
def waymarkref55_May.f (k : Nat) (l0 : List (S52)) : Option (Bool) := waymarkref55_May.l0 k l0 0
theorem waymarkref55_May.mono_l : ∀ k, (∀ y0 y1, LeO (waymarkref55_May.l0 k y0 y1) (waymarkref55_May.l0 (k + 1) y0 y1))
  | 0 => fun _ _ r h => by simp [waymarkref55_May.l0] at h
  | k + 1 => by
    have ih0 := waymarkref55_May.mono_l k
    · intro y0 y1
      unfold waymarkref55_May.l0
      repeat' first
      | (with_reducible exact ih0 _ _)
      | (with_reducible exact LeO.refl _)
      | (with_reducible exact LeO.none _)
      | (with_reducible refine LeO.ite ?_ ?_)
      | (with_reducible refine LeO.bind ?_ (fun _ => ?_))
      | exact ih0 _ _
      | exact LeO.none _
      | refine LeO.ite ?_ ?_
      | refine LeO.bind ?_ (fun _ => ?_)
theorem waymarkref55_May.mono : ∀ a0 k, LeO (waymarkref55_May.f k a0) (waymarkref55_May.f (k + 1) a0) := by
  intro a0 k
  have ih0 := waymarkref55_May.mono_l k
  unfold waymarkref55_May.f
  repeat' first
      | (with_reducible exact ih0 _ _)
      | (with_reducible exact LeO.refl _)
      | (with_reducible exact LeO.none _)
      | (with_reducible refine LeO.ite ?_ ?_)
      | (with_reducible refine LeO.bind ?_ (fun _ => ?_))
      | exact ih0 _ _
      | exact LeO.none _
      | refine LeO.ite ?_ ?_
      | refine LeO.bind ?_ (fun _ => ?_)
/-! ### elect_within: function 67 -/
def elect_within.f (a0 : Int) (a1 : Int) (a2 : Int) : Option (Bool) := if a0 ≥ a1 then (some (decide (a0 ≤ a2))) else (some false)
/-! ### elect_Check: function 42 -/
def elect_Check.l0 : Nat → Int → List (S52) → Int → Int → Option (Int)
  | 0, _, _, _, _ => none
  | k + 1, x3, x6, x7, x8 => if x8 < x7 then (if 0 ≤ x8 then (if x8 < (x6.length : Int) then (if ((rd_T52 x6 x8).f0) ≤ x3 then (some 1) else (if ((rd_T52 x6 x8).f0) > 64 then (some 1) else ((elect_within.f ((rd_T52 x6 x8).f1) 0 255).bind fun t106 => (if t106 = true then ((elect_within.f ((rd_T52 x6 x8).f2) 0 64).bind fun t107 => (if t107 = true then ((elect_within.f ((rd_T52 x6 x8).f3) 0 64).bind fun t108 => (if t108 = true then (elect_Check.l0 k ((rd_T52 x6 x8).f0) x6 x7 (wrap64 (x8 + 1))) else (some 1))) else (some 1))) else (some 1))))) else (none)) else (none)) else (some 0)
def elect_Check.f (k : Nat) (l0 : List (S52)) : Option (Int) := elect_Check.l0 k 0 l0 (l0.length : Int) 0
theorem elect_Check.mono_l : ∀ k, (∀ y0 y1 y2 y3, LeO (elect_Check.l0 k y0 y1 y2 y3) (elect_Check.l0 (k + 1) y0 y1 y2 y3))
  | 0 => fun _ _ _ _ r h => by simp [elect_Check.l0] at h
  | k + 1 => by
    have ih0 := elect_Check.mono_l k
    · intro y0 y1 y2 y3
      unfold elect_Check.l0
      repeat' first
      | (with_reducible exact ih0 _ _ _ _)
      | (with_reducible exact LeO.refl _)
      | (with_reducible exact LeO.none _)
      | (with_reducible refine LeO.ite ?_ ?_)
      | (with_reducible refine LeO.bind ?_ (fun _ => ?_))
      | exact ih0 _ _ _ _
      | exact LeO.none _
      | refine LeO.ite ?_ ?_
      | refine LeO.bind ?_ (fun _ => ?_)
theorem elect_Check.mono : ∀ a0 k, LeO (elect_Check.f k a0) (elect_Check.f (k + 1) a0) := by
  intro a0 k
  have ih0 := elect_Check.mono_l k
  unfold elect_Check.f
  repeat' first
      | (with_reducible exact ih0 _ _ _ _)
      | (with_reducible exact LeO.refl _)
      | (with_reducible exact LeO.none _)
      | (with_reducible refine LeO.ite ?_ ?_)
      | (with_reducible refine LeO.bind ?_ (fun _ => ?_))
      | exact ih0 _ _ _ _
      | exact LeO.none _
      | refine LeO.ite ?_ ?_
      | refine LeO.bind ?_ (fun _ => ?_)
/-! ### waymarkref55_best: function 68 -/
def waymarkref55_best.l0 : Nat → List (S52) → Int → Int → Int → Int → Int → Option (Int)
  | 0, _, _, _, _, _, _ => none
  | k + 1, x0, x4, x115000, x115001, x115002, x115003 => if x4 < (x0.length : Int) then (if 0 ≤ x4 then (if ((rd_T52 x0 x4).f1) > x115001 then (waymarkref55_best.l0 k x0 (wrap64 (x4 + 1)) ((rd_T52 x0 x4).f0) ((rd_T52 x0 x4).f1) ((rd_T52 x0 x4).f2) ((rd_T52 x0 x4).f3)) else (if ((rd_T52 x0 x4).f1) = x115001 then (if ((rd_T52 x0 x4).f1) > 0 then (if ((rd_T52 x0 x4).f0) > x115000 then (waymarkref55_best.l0 k x0 (wrap64 (x4 + 1)) ((rd_T52 x0 x4).f0) ((rd_T52 x0 x4).f1) ((rd_T52 x0 x4).f2) ((rd_T52 x0 x4).f3)) else (waymarkref55_best.l0 k x0 (wrap64 (x4 + 1)) x115000 x115001 x115002 x115003)) else (waymarkref55_best.l0 k x0 (wrap64 (x4 + 1)) x115000 x115001 x115002 x115003)) else (waymarkref55_best.l0 k x0 (wrap64 (x4 + 1)) x115000 x115001 x115002 x115003))) else (none)) else (some x115000)
def waymarkref55_best.f (k : Nat) (l0 : List (S52)) : Option (Int) := waymarkref55_best.l0 k l0 0 0 0 0 0
theorem waymarkref55_best.mono_l : ∀ k, (∀ y0 y1 y2 y3 y4 y5, LeO (waymarkref55_best.l0 k y0 y1 y2 y3 y4 y5) (waymarkref55_best.l0 (k + 1) y0 y1 y2 y3 y4 y5))
  | 0 => fun _ _ _ _ _ _ r h => by simp [waymarkref55_best.l0] at h
  | k + 1 => by
    have ih0 := waymarkref55_best.mono_l k
    · intro y0 y1 y2 y3 y4 y5
      unfold waymarkref55_best.l0
      repeat' first
      | (with_reducible exact ih0 _ _ _ _ _ _)
      | (with_reducible exact LeO.refl _)
      | (with_reducible exact LeO.none _)
      | (with_reducible refine LeO.ite ?_ ?_)
      | (with_reducible refine LeO.bind ?_ (fun _ => ?_))
      | exact ih0 _ _ _ _ _ _
      | exact LeO.none _
      | refine LeO.ite ?_ ?_
      | refine LeO.bind ?_ (fun _ => ?_)
theorem waymarkref55_best.mono : ∀ a0 k, LeO (waymarkref55_best.f k a0) (waymarkref55_best.f (k + 1) a0) := by
  intro a0 k
  have ih0 := waymarkref55_best.mono_l k
  unfold waymarkref55_best.f
  repeat' first
      | (with_reducible exact ih0 _ _ _ _ _ _)
      | (with_reducible exact LeO.refl _)
      | (with_reducible exact LeO.none _)
      | (with_reducible refine LeO.ite ?_ ?_)
      | (with_reducible refine LeO.bind ?_ (fun _ => ?_))
      | exact ih0 _ _ _ _ _ _
      | exact LeO.none _
      | refine LeO.ite ?_ ?_
      | refine LeO.bind ?_ (fun _ => ?_)
/-! ### waymarkref55_runner: function 69 -/
def waymarkref55_runner.l0 : Nat → List (S52) → List (S52) → Int → Option (Int)
  | 0, _, _, _ => none
  | k + 1, x0, x3, x4 => if x4 < (x0.length : Int) then (if 0 ≤ x4 then (if ((rd_T52 x0 x4).f3) = ((rd_T52 x0 x4).f0) then (if x3.length < 4398046511104 then (waymarkref55_runner.l0 k x0 (x3 ++ [(⟨(rd_T52 x0 x4).f0, (rd_T52 x0 x4).f1, (rd_T52 x0 x4).f2, (rd_T52 x0 x4).f3⟩ : S52)]) (wrap64 (x4 + 1))) else (none)) else (waymarkref55_runner.l0 k x0 x3 (wrap64 (x4 + 1)))) else (none)) else ((waymarkref55_best.f k x3).bind fun t126 => (if t126 > 0 then ((waymarkref55_best.f k x3).bind fun t127 => (some t127)) else ((waymarkref55_best.f k x0).bind fun t128 => (some t128))))
def waymarkref55_runner.f (k : Nat) (l0 : List (S52)) : Option (Int) := waymarkref55_runner.l0 k l0 (([] : List (S52))) 0
theorem waymarkref55_runner.mono_l : ∀ k, (∀ y0 y1 y2, LeO (waymarkref55_runner.l0 k y0 y1 y2) (waymarkref55_runner.l0 (k + 1) y0 y1 y2))
  | 0 => fun _ _ _ r h => by simp [waymarkref55_runner.l0] at h
  | k + 1 => by
    have ih0 := waymarkref55_runner.mono_l k
    · intro y0 y1 y2
      unfold waymarkref55_runner.l0
      repeat' first
      | (with_reducible exact ih0 _ _ _)
      | (with_reducible exact waymarkref55_best.mono _ _)
      | (with_reducible exact LeO.refl _)
      | (with_reducible exact LeO.none _)
      | (with_reducible refine LeO.ite ?_ ?_)
      | (with_reducible refine LeO.bind ?_ (fun _ => ?_))
      | exact ih0 _ _ _
      | exact waymarkref55_best.mono _ _
      | exact LeO.none _
      | refine LeO.ite ?_ ?_
      | refine LeO.bind ?_ (fun _ => ?_)
theorem waymarkref55_runner.mono : ∀ a0 k, LeO (waymarkref55_runner.f k a0) (waymarkref55_runner.f (k + 1) a0) := by
  intro a0 k
  have ih0 := waymarkref55_runner.mono_l k
  unfold waymarkref55_runner.f
  repeat' first
      | (with_reducible exact ih0 _ _ _)
      | (with_reducible exact waymarkref55_best.mono _ _)
      | (with_reducible exact LeO.refl _)
      | (with_reducible exact LeO.none _)
      | (with_reducible refine LeO.ite ?_ ?_)
      | (with_reducible refine LeO.bind ?_ (fun _ => ?_))
      | exact ih0 _ _ _
      | exact waymarkref55_best.mono _ _
      | exact LeO.none _
      | refine LeO.ite ?_ ?_
      | refine LeO.bind ?_ (fun _ => ?_)
/-! ### waymarkref55_Choose: function 43 -/
mutual
def waymarkref55_Choose.l0 : Nat → List (S52) → List (S52) → List (S52) → Int → Option (Int × Int)
  | 0, _, _, _, _ => none
  | k + 1, x0, x4, x5, x6 => if x6 < (x0.length : Int) then (if 0 ≤ x6 then (if ((rd_T52 x0 x6).f2) = ((rd_T52 x0 x6).f0) then (if x4.length < 4398046511104 then (waymarkref55_Choose.l0 k x0 (x4 ++ [(⟨(rd_T52 x0 x6).f0, (rd_T52 x0 x6).f1, (rd_T52 x0 x6).f2, (rd_T52 x0 x6).f3⟩ : S52)]) x5 (wrap64 (x6 + 1))) else (none)) else (if x5.length < 4398046511104 then (waymarkref55_Choose.l0 k x0 x4 (x5 ++ [(⟨(rd_T52 x0 x6).f0, (rd_T52 x0 x6).f1, (rd_T52 x0 x6).f2, (rd_T52 x0 x6).f3⟩ : S52)]) (wrap64 (x6 + 1))) else (none))) else (none)) else ((waymarkref55_best.f k x4).bind fun t145 => (if t145 > 0 then ((waymarkref55_best.f k x4).bind fun t146 => ((waymarkref55_runner.f k x5).bind fun t147 => (some (t146, t147)))) else ((waymarkref55_runner.f k x5).bind fun t148 => (waymarkref55_Choose.l1 k x0 t148 (([] : List (S52))) 0))))
def waymarkref55_Choose.l1 : Nat → List (S52) → Int → List (S52) → Int → Option (Int × Int)
  | 0, _, _, _, _ => none
  | k + 1, x0, x7, x8, x9 => if x9 < (x0.length : Int) then (if 0 ≤ x9 then (if ((rd_T52 x0 x9).f0) = x7 then (waymarkref55_Choose.l1 k x0 x7 x8 (wrap64 (x9 + 1))) else (if x8.length < 4398046511104 then (waymarkref55_Choose.l1 k x0 x7 (x8 ++ [(⟨(rd_T52 x0 x9).f0, (rd_T52 x0 x9).f1, (rd_T52 x0 x9).f2, (rd_T52 x0 x9).f3⟩ : S52)]) (wrap64 (x9 + 1))) else (none))) else (none)) else ((waymarkref55_runner.f k x8).bind fun t157 => (some (x7, t157)))
end
def waymarkref55_Choose.f (k : Nat) (l0 : List (S52)) : Option (Int × Int) := waymarkref55_Choose.l0 k l0 (([] : List (S52))) (([] : List (S52))) 0
theorem waymarkref55_Choose.mono_l : ∀ k, (∀ y0 y1 y2 y3, LeO (waymarkref55_Choose.l0 k y0 y1 y2 y3) (waymarkref55_Choose.l0 (k + 1) y0 y1 y2 y3)) ∧ (∀ y0 y1 y2 y3, LeO (waymarkref55_Choose.l1 k y0 y1 y2 y3) (waymarkref55_Choose.l1 (k + 1) y0 y1 y2 y3))
  | 0 => ⟨fun _ _ _ _ r h => by simp [waymarkref55_Choose.l0] at h, fun _ _ _ _ r h => by simp [waymarkref55_Choose.l1] at h⟩
  | k + 1 => by
    obtain ⟨ih0, ih1⟩ := waymarkref55_Choose.mono_l k
    refine ⟨?_, ?_⟩
    · intro y0 y1 y2 y3
      unfold waymarkref55_Choose.l0
      repeat' first
      | (with_reducible exact ih0 _ _ _ _)
      | (with_reducible exact ih1 _ _ _ _)
      | (with_reducible exact waymarkref55_best.mono _ _)
      | (with_reducible exact waymarkref55_runner.mono _ _)
      | (with_reducible exact LeO.refl _)
      | (with_reducible exact LeO.none _)
      | (with_reducible refine LeO.ite ?_ ?_)
      | (with_reducible refine LeO.bind ?_ (fun _ => ?_))
      | exact ih0 _ _ _ _
      | exact ih1 _ _ _ _
      | exact waymarkref55_best.mono _ _
      | exact waymarkref55_runner.mono _ _
      | exact LeO.none _
      | refine LeO.ite ?_ ?_
      | refine LeO.bind ?_ (fun _ => ?_)
    · intro y0 y1 y2 y3
      unfold waymarkref55_Choose.l1
      repeat' first
      | (with_reducible exact ih0 _ _ _ _)
      | (with_reducible exact ih1 _ _ _ _)
      | (with_reducible exact waymarkref55_best.mono _ _)
      | (with_reducible exact waymarkref55_runner.mono _ _)
      | (with_reducible exact LeO.refl _)
      | (with_reducible exact LeO.none _)
      | (with_reducible refine LeO.ite ?_ ?_)
      | (with_reducible refine LeO.bind ?_ (fun _ => ?_))
      | exact ih0 _ _ _ _
      | exact ih1 _ _ _ _
      | exact waymarkref55_best.mono _ _
      | exact waymarkref55_runner.mono _ _
      | exact LeO.none _
      | refine LeO.ite ?_ ?_
      | refine LeO.bind ?_ (fun _ => ?_)
theorem waymarkref55_Choose.mono : ∀ a0 k, LeO (waymarkref55_Choose.f k a0) (waymarkref55_Choose.f (k + 1) a0) := by
  intro a0 k
  obtain ⟨ih0, ih1⟩ := waymarkref55_Choose.mono_l k
  unfold waymarkref55_Choose.f
  repeat' first
      | (with_reducible exact ih0 _ _ _ _)
      | (with_reducible exact ih1 _ _ _ _)
      | (with_reducible exact waymarkref55_best.mono _ _)
      | (with_reducible exact waymarkref55_runner.mono _ _)
      | (with_reducible exact LeO.refl _)
      | (with_reducible exact LeO.none _)
      | (with_reducible refine LeO.ite ?_ ?_)
      | (with_reducible refine LeO.bind ?_ (fun _ => ?_))
      | exact ih0 _ _ _ _
      | exact ih1 _ _ _ _
      | exact waymarkref55_best.mono _ _
      | exact waymarkref55_runner.mono _ _
      | exact LeO.none _
      | refine LeO.ite ?_ ?_
      | refine LeO.bind ?_ (fun _ => ?_)
/-! ### waymarkref55_Take: function 46 -/
def waymarkref55_Take.l0 : Nat → List (S52) → Int → Int → List (S52) → Int → Option ((List (S52)))
  | 0, _, _, _, _, _ => none
  | k + 1, x0, x1, x2, x7, x8 => if x8 < (x0.length : Int) then (if 0 ≤ x8 then (if x7.length < 4398046511104 then (waymarkref55_Take.l0 k x0 x1 x2 (x7 ++ [(⟨(rd_T52 x0 x8).f0, (rd_T52 x0 x8).f1, x1, x2⟩ : S52)]) (wrap64 (x8 + 1))) else (none)) else (none)) else (some x7)
def waymarkref55_Take.f (k : Nat) (l0 : List (S52)) (a1 : Int) (a2 : Int) : Option ((List (S52))) := waymarkref55_Take.l0 k l0 a1 a2 (([] : List (S52))) 0
theorem waymarkref55_Take.mono_l : ∀ k, (∀ y0 y1 y2 y3 y4, LeO (waymarkref55_Take.l0 k y0 y1 y2 y3 y4) (waymarkref55_Take.l0 (k + 1) y0 y1 y2 y3 y4))
  | 0 => fun _ _ _ _ _ r h => by simp [waymarkref55_Take.l0] at h
  | k + 1 => by
    have ih0 := waymarkref55_Take.mono_l k
    · intro y0 y1 y2 y3 y4
      unfold waymarkref55_Take.l0
      repeat' first
      | (with_reducible exact ih0 _ _ _ _ _)
      | (with_reducible exact LeO.refl _)
      | (with_reducible exact LeO.none _)
      | (with_reducible refine LeO.ite ?_ ?_)
      | (with_reducible refine LeO.bind ?_ (fun _ => ?_))
      | exact ih0 _ _ _ _ _
      | exact LeO.none _
      | refine LeO.ite ?_ ?_
      | refine LeO.bind ?_ (fun _ => ?_)
theorem waymarkref55_Take.mono : ∀ a0 a1 a2 k, LeO (waymarkref55_Take.f k a0 a1 a2) (waymarkref55_Take.f (k + 1) a0 a1 a2) := by
  intro a0 a1 a2 k
  have ih0 := waymarkref55_Take.mono_l k
  unfold waymarkref55_Take.f
  repeat' first
      | (with_reducible exact ih0 _ _ _ _ _)
      | (with_reducible exact LeO.refl _)
      | (with_reducible exact LeO.none _)
      | (with_reducible refine LeO.ite ?_ ?_)
      | (with_reducible refine LeO.bind ?_ (fun _ => ?_))
      | exact ih0 _ _ _ _ _
      | exact LeO.none _
      | refine LeO.ite ?_ ?_
      | refine LeO.bind ?_ (fun _ => ?_)
/-! ### waymarkref55_Settle: function 44 -/
def waymarkref55_Settle.l0 : Nat → List (S52) → Int → Int → Int → Option (Int × Int × Int)
  | 0, _, _, _, _ => none
  | k + 1, x0, x5, x6, x7 => if x7 < 5 then ((waymarkref55_Take.f k x0 x5 x6).bind fun t173 => ((waymarkref55_Choose.f k t173).bind fun bt176 => (if x5 = bt176.1 then (if x6 = bt176.2 then (some (bt176.1, bt176.2, x7)) else (waymarkref55_Settle.l0 k x0 bt176.1 bt176.2 (wrap64 (x7 + 1)))) else (waymarkref55_Settle.l0 k x0 bt176.1 bt176.2 (wrap64 (x7 + 1)))))) else ((waymarkref55_Take.f k x0 x5 x6).bind fun t168 => ((waymarkref55_Choose.f k t168).bind fun bt171 => (some (bt171.1, bt171.2, 5))))
def waymarkref55_Settle.f (k : Nat) (l0 : List (S52)) : Option (Int × Int × Int) := (waymarkref55_Choose.f k l0).bind fun bt166 => (waymarkref55_Settle.l0 k l0 bt166.1 bt166.2 1)
theorem waymarkref55_Settle.mono_l : ∀ k, (∀ y0 y1 y2 y3, LeO (waymarkref55_Settle.l0 k y0 y1 y2 y3) (waymarkref55_Settle.l0 (k + 1) y0 y1 y2 y3))
  | 0 => fun _ _ _ _ r h => by simp [waymarkref55_Settle.l0] at h
  | k + 1 => by
    have ih0 := waymarkref55_Settle.mono_l k
    · intro y0 y1 y2 y3
      unfold waymarkref55_Settle.l0
      repeat' first
      | (with_reducible exact ih0 _ _ _ _)
      | (with_reducible exact waymarkref55_Choose.mono _ _)
      | (with_reducible exact waymarkref55_Take.mono _ _ _ _)
      | (with_reducible exact LeO.refl _)
      | (with_reducible exact LeO.none _)
      | (with_reducible refine LeO.ite ?_ ?_)
      | (with_reducible refine LeO.bind ?_ (fun _ => ?_))
      | exact ih0 _ _ _ _
      | exact waymarkref55_Choose.mono _ _
      | exact waymarkref55_Take.mono _ _ _ _
      | exact LeO.none _
      | refine LeO.ite ?_ ?_
      | refine LeO.bind ?_ (fun _ => ?_)
theorem waymarkref55_Settle.mono : ∀ a0 k, LeO (waymarkref55_Settle.f k a0) (waymarkref55_Settle.f (k + 1) a0) := by
  intro a0 k
  have ih0 := waymarkref55_Settle.mono_l k
  unfold waymarkref55_Settle.f
  repeat' first
      | (with_reducible exact ih0 _ _ _ _)
      | (with_reducible exact waymarkref55_Choose.mono _ _)
      | (with_reducible exact waymarkref55_Take.mono _ _ _ _)
      | (with_reducible exact LeO.refl _)
      | (with_reducible exact LeO.none _)
      | (with_reducible refine LeO.ite ?_ ?_)
      | (with_reducible refine LeO.bind ?_ (fun _ => ?_))
      | exact ih0 _ _ _ _
      | exact waymarkref55_Choose.mono _ _
      | exact waymarkref55_Take.mono _ _ _ _
      | exact LeO.none _
      | refine LeO.ite ?_ ?_
      | refine LeO.bind ?_ (fun _ => ?_)
/-! ### waymarklaw55_same: function 45 -/
def waymarklaw55_same.l0 : Nat → List (S52) → List (S52) → Int → Option (Bool)
  | 0, _, _, _ => none
  | k + 1, x0, x1, x5 => if x5 < (x0.length : Int) then (if 0 ≤ x5 then (if x5 < (x1.length : Int) then (if (!(((rd_T52 x0 x5).f0) == ((rd_T52 x1 x5).f0)) || (!(((rd_T52 x0 x5).f1) == ((rd_T52 x1 x5).f1)) || (!(((rd_T52 x0 x5).f2) == ((rd_T52 x1 x5).f2)) || (!(((rd_T52 x0 x5).f3) == ((rd_T52 x1 x5).f3)))))) = true then (some false) else (waymarklaw55_same.l0 k x0 x1 (wrap64 (x5 + 1)))) else (none)) else (none)) else (some true)
def waymarklaw55_same.f (k : Nat) (l0 : List (S52)) (l1 : List (S52)) : Option (Bool) := if (l0.length : Int) = (l1.length : Int) then (waymarklaw55_same.l0 k l0 l1 0) else (some false)
theorem waymarklaw55_same.mono_l : ∀ k, (∀ y0 y1 y2, LeO (waymarklaw55_same.l0 k y0 y1 y2) (waymarklaw55_same.l0 (k + 1) y0 y1 y2))
  | 0 => fun _ _ _ r h => by simp [waymarklaw55_same.l0] at h
  | k + 1 => by
    have ih0 := waymarklaw55_same.mono_l k
    · intro y0 y1 y2
      unfold waymarklaw55_same.l0
      repeat' first
      | (with_reducible exact ih0 _ _ _)
      | (with_reducible exact LeO.refl _)
      | (with_reducible exact LeO.none _)
      | (with_reducible refine LeO.ite ?_ ?_)
      | (with_reducible refine LeO.bind ?_ (fun _ => ?_))
      | exact ih0 _ _ _
      | exact LeO.none _
      | refine LeO.ite ?_ ?_
      | refine LeO.bind ?_ (fun _ => ?_)
theorem waymarklaw55_same.mono : ∀ a0 a1 k, LeO (waymarklaw55_same.f k a0 a1) (waymarklaw55_same.f (k + 1) a0 a1) := by
  intro a0 a1 k
  have ih0 := waymarklaw55_same.mono_l k
  unfold waymarklaw55_same.f
  repeat' first
      | (with_reducible exact ih0 _ _ _)
      | (with_reducible exact LeO.refl _)
      | (with_reducible exact LeO.none _)
      | (with_reducible refine LeO.ite ?_ ?_)
      | (with_reducible refine LeO.bind ?_ (fun _ => ?_))
      | exact ih0 _ _ _
      | exact LeO.none _
      | refine LeO.ite ?_ ?_
      | refine LeO.bind ?_ (fun _ => ?_)
end Go.Proofs.Ytdkobokdeofiiaa.El
