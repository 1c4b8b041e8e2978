/- The cost functions as Lean functions (printed by the kit), for every input. -/
import Derived.Test.YtdkobokdeofiiaaProg
import Derived.Below
import Derived.Deep.Draws
import Derived.Deep.AppendLies
import Derived.Maps.AppendAt
import Derived.OwnWalk
import Derived.Laws.BytesArg
import Derived.Laws.MakeOwn
import Derived.Laws.OwnMore
import Derived.Deep.OwnRows
import Derived.Tactics
import Derived.Lib.ConvBytes
import Derived.Laws.Slices
import Derived.WalkKit
import Derived.KernelRfl
import Derived.RowKit3
import Derived.Deep.LoopGhost
import Derived.Deep.QuietTactic
import Derived.BigQuiet
import Derived.WideLaws
import Derived.Deep.DeepCutAuto
import Derived.Deep.CutBlock
import Derived.Deep.RegionHeld3
import Derived.Laws.Rows
import Derived.Lib.AppendStr
import Derived.ArgAppend
import Derived.Laws.IdiomCopy
import Derived.OrdersHeld
import Derived.Laws.BitsLemmas
import Derived.RowKit
import Derived.Test.YtdkobokdeofiiaaWWords
import Derived.Test.YtdkobokdeofiiaaWLast
import Derived.Test.YtdkobokdeofiiaaWTab
import Derived.Test.YtdkobokdeofiiaaWFour
import Derived.Test.YtdkobokdeofiiaaWQPut
import Derived.Test.YtdkobokdeofiiaaWApart
import Derived.Test.YtdkobokdeofiiaaWArr
import Derived.Test.YtdkobokdeofiiaaWZeros
import Derived.Test.YtdkobokdeofiiaaWFoot
import Derived.Test.YtdkobokdeofiiaaWKept
import Derived.Test.YtdkobokdeofiiaaWShare
import Derived.Test.YtdkobokdeofiiaaWN
import Derived.Test.YtdkobokdeofiiaaWFootNe
import Derived.Test.YtdkobokdeofiiaaWAt
import Derived.Test.YtdkobokdeofiiaaWEqStruct
import Derived.Test.YtdkobokdeofiiaaWRepsOne
import Derived.Test.YtdkobokdeofiiaaWInv
import Derived.Test.YtdkobokdeofiiaaWInvWords
import Derived.Test.YtdkobokdeofiiaaWGuard
import Derived.Test.YtdkobokdeofiiaaWNEv
import Derived.Test.YtdkobokdeofiiaaWMore
set_option linter.unusedVariables false
set_option linter.unusedSimpArgs false
namespace Go.Proofs.Ytdkobokdeofiiaa.Cs
open Go.RowKit Go.Proofs.YtdkobokdeofiiaaW.PrintWords Go.Proofs.YtdkobokdeofiiaaW.PrintLast Go.Proofs.YtdkobokdeofiiaaW.PrintMore
attribute [local go_sem] max2_int min2_int max_two min_two max_three min_three max_four min_four




def errW : Option Int → Value
  | none => .nilIface
  | some c => .iface 0 (.int .i64 c)
theorem errW_none : errW none = .nilIface := rfl
theorem errW_some (c : Int) : errW (some c) = .iface 0 (.int .i64 c) := rfl

theorem info25 : (Try.prog.info? 25).map (fun i => (i.zero, i.size, i.bytes)) = some (some (.int .u64 0), 1, 8) := by kernel_rfl
-- the values' own types





/-! ### cost_Far: function 59 -/
def cost_Far.f  : Option (Int) := some 18446744073709551615
/-! ### cost_Add: function 17 -/
def cost_Add.f (a0 : Int) (a1 : Int) : Option (Int) := (cost_Far.f).bind fun t101 => (if a0 > (IntKind.u64.wrap (t101 - a1)) then ((cost_Far.f).bind fun t102 => (some t102)) else (some (IntKind.u64.wrap (a0 + a1))))
/-! ### waymarklaw22_awake: function 15 -/
def waymarklaw22_awake.f  : Option (Bool) := (cost_Add.f 3 4).bind fun t103 => (if t103 = 7 then ((cost_Far.f).bind fun t104 => (if t104 = 18446744073709551615 then ((cost_Far.f).bind fun t105 => ((cost_Add.f t105 1).bind fun t106 => ((cost_Far.f).bind fun t107 => (some (t106 == t107))))) else (some false))) else (some false))
/-! ### cost_Sum: function 16 -/
def cost_Sum.l0 : Nat → Int → List Int → Int → Int → Option (Int)
  | 0, _, _, _, _ => none
  | k + 1, x3, x6, x7, x8 => if x8 < x7 then (if 0 ≤ x8 then (if x8 < (x6.length : Int) then ((cost_Add.f x3 (rd x6 x8)).bind fun t109 => (cost_Sum.l0 k t109 x6 x7 (wrap64 (x8 + 1)))) else (none)) else (none)) else (some x3)
def cost_Sum.f (k : Nat) (l0 : List Int) : Option (Int) := cost_Sum.l0 k 0 l0 (l0.length : Int) 0
theorem cost_Sum.mono_l : ∀ k, (∀ y0 y1 y2 y3, LeO (cost_Sum.l0 k y0 y1 y2 y3) (cost_Sum.l0 (k + 1) y0 y1 y2 y3))
  | 0 => fun _ _ _ _ r h => by simp [cost_Sum.l0] at h
  | k + 1 => by
    have ih0 := cost_Sum.mono_l k
    · intro y0 y1 y2 y3
      unfold cost_Sum.l0
      repeat' first
      | (with_reducible exact ih0 _ _ _ _)
      | (with_reducible exact LeO.refl _)
      | (with_reducible exact LeO.none _)
      | (with_reducible refine LeO.ite ?_ ?_)
      | (with_reducible refine LeO.bind ?_ (fun _ => ?_))
      | exact ih0 _ _ _ _
      | exact LeO.none _
      | refine LeO.ite ?_ ?_
      | refine LeO.bind ?_ (fun _ => ?_)
theorem cost_Sum.mono : ∀ a0 k, LeO (cost_Sum.f k a0) (cost_Sum.f (k + 1) a0) := by
  intro a0 k
  have ih0 := cost_Sum.mono_l k
  unfold cost_Sum.f
  repeat' first
      | (with_reducible exact ih0 _ _ _ _)
      | (with_reducible exact LeO.refl _)
      | (with_reducible exact LeO.none _)
      | (with_reducible refine LeO.ite ?_ ?_)
      | (with_reducible refine LeO.bind ?_ (fun _ => ?_))
      | exact ih0 _ _ _ _
      | exact LeO.none _
      | refine LeO.ite ?_ ?_
      | refine LeO.bind ?_ (fun _ => ?_)
/-! ### waymarklaw22_CostSums: function 3 -/
mutual
def waymarklaw22_CostSums.j0 : Nat → List Int → List Int → Bool → Option (Bool)
  | 0, _, _, _ => none
  | k + 1, x0, x1, x19 => if x19 = true then ((waymarklaw22_awake.f).bind fun t110 => (some t110)) else ((cost_Sum.f k x0).bind fun t111 => ((some (([] : List Int) : List Int)).bind fun y112 => (if y112.length + x0.length < 17592186044416 then (waymarklaw22_CostSums.l0 k x0 x1 t111 (y112 ++ x0) 0 0) else (none))))
def waymarklaw22_CostSums.l0 : Nat → List Int → List Int → Int → List Int → Int → Int → Option (Bool)
  | 0, _, _, _, _, _, _ => none
  | k + 1, x0, x1, x5, x6, x7, x8 => if x8 < (x0.length : Int) then (if x8 < (x1.length : Int) then (if 0 ≤ x8 then (if (x6.length : Int) = 0 then (none) else (if 0 ≤ (Int.tmod (wrap64 (rd x1 x8)) (x6.length : Int)) then (if (Int.tmod (wrap64 (rd x1 x8)) (x6.length : Int)) < (x6.length : Int) then ((cost_Add.f (rd x6 (Int.tmod (wrap64 (rd x1 x8)) (x6.length : Int))) x7).bind fun t120 => ((some (([] : List Int) : List Int)).bind fun y121 => (if (Int.tmod (wrap64 (rd x1 x8)) (x6.length : Int)) ≤ (x6.length : Int) then ((some (x6.take ((Int.tmod (wrap64 (rd x1 x8)) (x6.length : Int)) : Int).toNat : List Int)).bind fun y124 => (if y121.length + y124.length < 17592186044416 then ((some (y121 ++ y124 : List Int)).bind fun y128 => (if 0 ≤ (wrap64 ((Int.tmod (wrap64 (rd x1 x8)) (x6.length : Int)) + 1)) then (if (wrap64 ((Int.tmod (wrap64 (rd x1 x8)) (x6.length : Int)) + 1)) ≤ (x6.length : Int) then ((some (x6.drop ((wrap64 ((Int.tmod (wrap64 (rd x1 x8)) (x6.length : Int)) + 1)) : Int).toNat : List Int)).bind fun y131 => (if y128.length + y131.length < 17592186044416 then (waymarklaw22_CostSums.l0 k x0 x1 x5 (y128 ++ y131) t120 (wrap64 (x8 + 1))) else (none))) else (none)) else (none))) else (none))) else (none)))) else (none)) else (none))) else (none)) else (if 0 < (x6.length : Int) then ((cost_Add.f (rd x6 0) x7).bind fun t139 => ((some (([] : List Int) : List Int)).bind fun y140 => (if 0 ≤ (x6.length : Int) then ((some (x6.take 0 : List Int)).bind fun y143 => (if y140.length + y143.length < 17592186044416 then ((some (y140 ++ y143 : List Int)).bind fun y147 => (if (0 : Int) ≤ (0 + 1) then (if (0 + 1 : Int) ≤ (x6.length : Int) then ((some (x6.drop ((0 + 1) : Int).toNat : List Int)).bind fun y150 => (if y147.length + y150.length < 17592186044416 then (waymarklaw22_CostSums.l0 k x0 x1 x5 (y147 ++ y150) t139 (wrap64 (x8 + 1))) else (none))) else (none)) else (none))) else (none))) else (none)))) else (none))) else (if 0 ≤ (wrap64 ((x0.length : Int) / 2)) then (if (wrap64 ((x0.length : Int) / 2)) ≤ (x0.length : Int) then ((cost_Sum.f k (x0.take ((wrap64 ((x0.length : Int) / 2)) : Int).toNat)).bind fun t158 => ((cost_Sum.f k (x0.drop ((wrap64 ((x0.length : Int) / 2)) : Int).toNat)).bind fun t160 => ((cost_Add.f t158 t160).bind fun t161 => (if x5 = x7 then (if x5 = t161 then (if (x0.length : Int) = 0 then ((waymarklaw22_awake.f).bind fun t162 => (some t162)) else (if 1 ≤ (x0.length : Int) then ((cost_Sum.f k (x0.drop 1)).bind fun t164 => (if t164 ≤ x5 then ((waymarklaw22_awake.f).bind fun t165 => (some t165)) else (some false))) else (none))) else (some false)) else (some false))))) else (none)) else (none))
end
def waymarklaw22_CostSums.f (k : Nat) (l0 : List Int) (l1 : List Int) : Option (Bool) := if (l0.length : Int) > 200 then (waymarklaw22_CostSums.j0 k l0 l1 true) else (waymarklaw22_CostSums.j0 k l0 l1 (decide ((l1.length : Int) > 400)))
theorem waymarklaw22_CostSums.mono_l : ∀ k, (∀ y0 y1 y2, LeO (waymarklaw22_CostSums.j0 k y0 y1 y2) (waymarklaw22_CostSums.j0 (k + 1) y0 y1 y2)) ∧ (∀ y0 y1 y2 y3 y4 y5, LeO (waymarklaw22_CostSums.l0 k y0 y1 y2 y3 y4 y5) (waymarklaw22_CostSums.l0 (k + 1) y0 y1 y2 y3 y4 y5))
  | 0 => ⟨fun _ _ _ r h => by simp [waymarklaw22_CostSums.j0] at h, fun _ _ _ _ _ _ r h => by simp [waymarklaw22_CostSums.l0] at h⟩
  | k + 1 => by
    obtain ⟨ih0, ih1⟩ := waymarklaw22_CostSums.mono_l k
    refine ⟨?_, ?_⟩
    · intro y0 y1 y2
      unfold waymarklaw22_CostSums.j0
      repeat' first
      | (with_reducible exact ih0 _ _ _)
      | (with_reducible exact ih1 _ _ _ _ _ _)
      | (with_reducible exact cost_Sum.mono _ _)
      | (with_reducible exact LeO.refl _)
      | (with_reducible exact LeO.none _)
      | (with_reducible refine LeO.ite ?_ ?_)
      | (with_reducible refine LeO.bind ?_ (fun _ => ?_))
      | exact ih0 _ _ _
      | exact ih1 _ _ _ _ _ _
      | exact cost_Sum.mono _ _
      | exact LeO.none _
      | refine LeO.ite ?_ ?_
      | refine LeO.bind ?_ (fun _ => ?_)
    · intro y0 y1 y2 y3 y4 y5
      unfold waymarklaw22_CostSums.l0
      repeat' first
      | (with_reducible exact ih0 _ _ _)
      | (with_reducible exact ih1 _ _ _ _ _ _)
      | (with_reducible exact cost_Sum.mono _ _)
      | (with_reducible exact LeO.refl _)
      | (with_reducible exact LeO.none _)
      | (with_reducible refine LeO.ite ?_ ?_)
      | (with_reducible refine LeO.bind ?_ (fun _ => ?_))
      | exact ih0 _ _ _
      | exact ih1 _ _ _ _ _ _
      | exact cost_Sum.mono _ _
      | exact LeO.none _
      | refine LeO.ite ?_ ?_
      | refine LeO.bind ?_ (fun _ => ?_)
theorem waymarklaw22_CostSums.mono : ∀ a0 a1 k, LeO (waymarklaw22_CostSums.f k a0 a1) (waymarklaw22_CostSums.f (k + 1) a0 a1) := by
  intro a0 a1 k
  obtain ⟨ih0, ih1⟩ := waymarklaw22_CostSums.mono_l k
  unfold waymarklaw22_CostSums.f
  repeat' first
      | (with_reducible exact ih0 _ _ _)
      | (with_reducible exact ih1 _ _ _ _ _ _)
      | (with_reducible exact cost_Sum.mono _ _)
      | (with_reducible exact LeO.refl _)
      | (with_reducible exact LeO.none _)
      | (with_reducible refine LeO.ite ?_ ?_)
      | (with_reducible refine LeO.bind ?_ (fun _ => ?_))
      | exact ih0 _ _ _
      | exact ih1 _ _ _ _ _ _
      | exact cost_Sum.mono _ _
      | exact LeO.none _
      | refine LeO.ite ?_ ?_
      | refine LeO.bind ?_ (fun _ => ?_)
def waymarklaw22_CostSums.Pure : Prop := ∀ (l0 : List Int) (l1 : List Int), l0.length ≤ maxLen → l0.length * 8 ≤ 140737488351232 → (∀ x ∈ l0, (Lit.int .u64 x).wf = true) → l1.length ≤ maxLen → l1.length * 1 ≤ 140737488351232 → (∀ x ∈ l1, (Lit.int .u8 x).wf = true) → ∃ k, waymarklaw22_CostSums.f k l0 l1 = some true
end Go.Proofs.Ytdkobokdeofiiaa.Cs
