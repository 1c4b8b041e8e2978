/- The damp functions as Lean functions (printed by the kit), for every input. -/
import Derived.Test.YtdkobokdeofiiaaProg
import Derived.Below
import Derived.Deep.Draws
import Derived.Deep.AppendLies
import Derived.Maps.AppendAt
import Derived.OwnWalk
import Derived.Laws.BytesArg
import Derived.Laws.MakeOwn
import Derived.Laws.OwnMore
import Derived.Deep.OwnRows
import Derived.Tactics
import Derived.Lib.ConvBytes
import Derived.Laws.Slices
import Derived.WalkKit
import Derived.KernelRfl
import Derived.RowKit3
import Derived.Deep.LoopGhost
import Derived.Deep.QuietTactic
import Derived.BigQuiet
import Derived.WideLaws
import Derived.Deep.DeepCutAuto
import Derived.Deep.CutBlock
import Derived.Deep.RegionHeld3
import Derived.Laws.Rows
import Derived.Lib.AppendStr
import Derived.ArgAppend
import Derived.Laws.IdiomCopy
import Derived.OrdersHeld
import Derived.Laws.BitsLemmas
import Derived.RowKit
import Derived.Test.YtdkobokdeofiiaaWWords
import Derived.Test.YtdkobokdeofiiaaWLast
import Derived.Test.YtdkobokdeofiiaaWTab
import Derived.Test.YtdkobokdeofiiaaWFour
import Derived.Test.YtdkobokdeofiiaaWQPut
import Derived.Test.YtdkobokdeofiiaaWApart
import Derived.Test.YtdkobokdeofiiaaWArr
import Derived.Test.YtdkobokdeofiiaaWZeros
import Derived.Test.YtdkobokdeofiiaaWFoot
import Derived.Test.YtdkobokdeofiiaaWKept
import Derived.Test.YtdkobokdeofiiaaWShare
import Derived.Test.YtdkobokdeofiiaaWN
import Derived.Test.YtdkobokdeofiiaaWFootNe
import Derived.Test.YtdkobokdeofiiaaWAt
import Derived.Test.YtdkobokdeofiiaaWEqStruct
import Derived.Test.YtdkobokdeofiiaaWRepsOne
import Derived.Test.YtdkobokdeofiiaaWInv
import Derived.Test.YtdkobokdeofiiaaWInvWords
import Derived.Test.YtdkobokdeofiiaaWGuard
import Derived.Test.YtdkobokdeofiiaaWNEv
import Derived.Test.YtdkobokdeofiiaaWMore
set_option linter.unusedVariables false
set_option linter.unusedSimpArgs false
namespace Go.Proofs.Ytdkobokdeofiiaa.Dm
open Go.RowKit Go.Proofs.YtdkobokdeofiiaaW.PrintWords Go.Proofs.YtdkobokdeofiiaaW.PrintLast Go.Proofs.YtdkobokdeofiiaaW.PrintMore
attribute [local go_sem] max2_int min2_int max_two min_two max_three min_three max_four min_four




def errW : Option Int → Value
  | none => .nilIface
  | some c => .iface 0 (.int .i64 c)
theorem errW_none : errW none = .nilIface := rfl
theorem errW_some (c : Int) : errW (some c) = .iface 0 (.int .i64 c) := rfl

-- the values' own types



/-! ### damp_Check: function 24 -/
def damp_Check.f (a0_0 : Int) (a0_1 : Bool) (a0_2 : Int) : Option (Int) := if a0_0 < 0 then (some 1) else (if a0_0 > 8000 then (some 1) else (if a0_2 < 0 then (some 1) else (if a0_2 > 1099511627776 then (some 1) else (some 0))))
/-! ### damp_Time: function 21 -/
def damp_Time.f (a0_0 : Int) (a0_1 : Bool) (a0_2 : Int) (a1 : Int) : Option (Int × Bool × Int × Int) := (damp_Check.f a0_0 a0_1 a0_2).bind fun t104 => (if t104 = 0 then (if a1 < a0_2 then (some (0, false, 0, 1)) else (if a1 > 1099511627776 then (some (0, false, 0, 1)) else (if 0 ≤ (mn (wrap64 (Int.tdiv (wrap64 (a1 - a0_2)) 10)) 20) then (if a0_1 = true then (some (a0_0 / 2 ^ (mn (wrap64 (Int.tdiv (wrap64 (a1 - a0_2)) 10)) 20).toNat, decide ((a0_0 / 2 ^ (mn (wrap64 (Int.tdiv (wrap64 (a1 - a0_2)) 10)) 20).toNat) ≥ 750), wrap64 (a0_2 + (wrap64 ((wrap64 (Int.tdiv (wrap64 (a1 - a0_2)) 10)) * 10))), 0)) else (some (a0_0 / 2 ^ (mn (wrap64 (Int.tdiv (wrap64 (a1 - a0_2)) 10)) 20).toNat, false, wrap64 (a0_2 + (wrap64 ((wrap64 (Int.tdiv (wrap64 (a1 - a0_2)) 10)) * 10))), 0))) else (none)))) else (some (0, false, 0, 1)))
/-! ### damp_Flap: function 22 -/
def damp_Flap.f (a0_0 : Int) (a0_1 : Bool) (a0_2 : Int) (a1 : Int) : Option (Int × Bool × Int × Int) := (damp_Time.f a0_0 a0_1 a0_2 a1).bind fun bt107 => (if bt107.2.2.2 = 0 then (if bt107.2.1 = true then (some (mn (wrap64 (bt107.1 + 1000)) 8000, true, bt107.2.2.1, 0)) else (some (mn (wrap64 (bt107.1 + 1000)) 8000, decide ((mn (wrap64 (bt107.1 + 1000)) 8000) ≥ 2000), bt107.2.2.1, 0))) else (some (0, false, 0, bt107.2.2.2)))
/-! ### waymarkref54_May: function 23 -/
def waymarkref54_May.f (a0_0 : Int) (a0_1 : Bool) (a0_2 : Int) : Option (Bool) := if a0_0 ≥ 0 then (if a0_0 ≤ 8000 then (if a0_2 ≥ 0 then (some (decide (a0_2 ≤ 1099511627776))) else (some false)) else (some false)) else (some false)
/-! ### damp_Wait: function 28 -/
mutual
def damp_Wait.j0 : Nat → Bool → Int → Bool → Int → Option (Int)
  | 0, _, _, _, _ => none
  | k + 1, x12, x113000, x113001, x113002 => if x12 = true then (some 0) else (damp_Wait.l0 k 0 x113000)
def damp_Wait.l0 : Nat → Int → Int → Option (Int)
  | 0, _, _ => none
  | k + 1, x3, x4 => if x4 ≥ 750 then (damp_Wait.l0 k (wrap64 (x3 + 10)) (wrap64 (Int.tdiv x4 2))) else (some x3)
end
def damp_Wait.f (k : Nat) (a0_0 : Int) (a0_1 : Bool) (a0_2 : Int) : Option (Int) := (damp_Check.f a0_0 a0_1 a0_2).bind fun t113 => (if t113 = 0 then (damp_Wait.j0 k (!a0_1) a0_0 a0_1 a0_2) else (damp_Wait.j0 k true a0_0 a0_1 a0_2))
theorem damp_Wait.mono_l : ∀ k, (∀ y0 y1 y2 y3, LeO (damp_Wait.j0 k y0 y1 y2 y3) (damp_Wait.j0 (k + 1) y0 y1 y2 y3)) ∧ (∀ y0 y1, LeO (damp_Wait.l0 k y0 y1) (damp_Wait.l0 (k + 1) y0 y1))
  | 0 => ⟨fun _ _ _ _ r h => by simp [damp_Wait.j0] at h, fun _ _ r h => by simp [damp_Wait.l0] at h⟩
  | k + 1 => by
    obtain ⟨ih0, ih1⟩ := damp_Wait.mono_l k
    refine ⟨?_, ?_⟩
    · intro y0 y1 y2 y3
      unfold damp_Wait.j0
      repeat' first
      | (with_reducible exact ih0 _ _ _ _)
      | (with_reducible exact ih1 _ _)
      | (with_reducible exact LeO.refl _)
      | (with_reducible exact LeO.none _)
      | (with_reducible refine LeO.ite ?_ ?_)
      | (with_reducible refine LeO.bind ?_ (fun _ => ?_))
      | exact ih0 _ _ _ _
      | exact ih1 _ _
      | exact LeO.none _
      | refine LeO.ite ?_ ?_
      | refine LeO.bind ?_ (fun _ => ?_)
    · intro y0 y1
      unfold damp_Wait.l0
      repeat' first
      | (with_reducible exact ih0 _ _ _ _)
      | (with_reducible exact ih1 _ _)
      | (with_reducible exact LeO.refl _)
      | (with_reducible exact LeO.none _)
      | (with_reducible refine LeO.ite ?_ ?_)
      | (with_reducible refine LeO.bind ?_ (fun _ => ?_))
      | exact ih0 _ _ _ _
      | exact ih1 _ _
      | exact LeO.none _
      | refine LeO.ite ?_ ?_
      | refine LeO.bind ?_ (fun _ => ?_)
theorem damp_Wait.mono : ∀ a0 a1 a2 k, LeO (damp_Wait.f k a0 a1 a2) (damp_Wait.f (k + 1) a0 a1 a2) := by
  intro a0 a1 a2 k
  obtain ⟨ih0, ih1⟩ := damp_Wait.mono_l k
  unfold damp_Wait.f
  repeat' first
      | (with_reducible exact ih0 _ _ _ _)
      | (with_reducible exact ih1 _ _)
      | (with_reducible exact LeO.refl _)
      | (with_reducible exact LeO.none _)
      | (with_reducible refine LeO.ite ?_ ?_)
      | (with_reducible refine LeO.bind ?_ (fun _ => ?_))
      | exact ih0 _ _ _ _
      | exact ih1 _ _
      | exact LeO.none _
      | refine LeO.ite ?_ ?_
      | refine LeO.bind ?_ (fun _ => ?_)
/-! ### waymarklaw54_awake: function 25 -/
def waymarklaw54_awake.f (k : Nat)  : Option (Bool) := (damp_Flap.f 0 false 0 0).bind fun bt114 => ((damp_Flap.f bt114.1 bt114.2.1 bt114.2.2.1 0).bind fun bt119 => ((damp_Time.f bt119.1 bt119.2.1 bt119.2.2.1 20).bind fun bt123 => (if bt114.2.2.2 = 0 then (if bt119.2.2.2 = 0 then (if bt123.2.2.2 = 0 then (if bt119.2.1 = true then (if bt119.1 = 2000 then (if bt123.2.1 = true then (some false) else (if bt123.1 = 500 then ((damp_Wait.f k bt119.1 bt119.2.1 bt119.2.2.1).bind fun t128 => (some (t128 == 20))) else (some false))) else (some false)) else (some false)) else (some false)) else (some false)) else (some false))))
theorem waymarklaw54_awake.mono : ∀ k, LeO (waymarklaw54_awake.f k ) (waymarklaw54_awake.f (k + 1) ) := by
  intro  k
  unfold waymarklaw54_awake.f
  repeat' first
      | (with_reducible exact damp_Wait.mono _ _ _ _)
      | (with_reducible exact LeO.refl _)
      | (with_reducible exact LeO.none _)
      | (with_reducible refine LeO.ite ?_ ?_)
      | (with_reducible refine LeO.bind ?_ (fun _ => ?_))
      | exact damp_Wait.mono _ _ _ _
      | exact LeO.none _
      | refine LeO.ite ?_ ?_
      | refine LeO.bind ?_ (fun _ => ?_)
/-! ### waymarkref54_Time: function 26 -/
def waymarkref54_Time.l0 : Nat → Int → Int → Int → Bool → Int → Option (Int × Bool × Int)
  | 0, _, _, _, _, _ => none
  | k + 1, x1, x5, x130000, x130001, x130002 => if x5 < 20 then (if (wrap64 (x1 - x130002)) ≥ 10 then (waymarkref54_Time.l0 k x1 (wrap64 (x5 + 1)) (wrap64 (Int.tdiv x130000 2)) x130001 (wrap64 (x130002 + 10))) else (if x130000 < 750 then (some (x130000, false, wrap64 (x130002 + (wrap64 ((wrap64 (Int.tdiv (wrap64 (x1 - x130002)) 10)) * 10))))) else (some (x130000, x130001, wrap64 (x130002 + (wrap64 ((wrap64 (Int.tdiv (wrap64 (x1 - x130002)) 10)) * 10))))))) else (if x130000 < 750 then (some (x130000, false, wrap64 (x130002 + (wrap64 ((wrap64 (Int.tdiv (wrap64 (x1 - x130002)) 10)) * 10))))) else (some (x130000, x130001, wrap64 (x130002 + (wrap64 ((wrap64 (Int.tdiv (wrap64 (x1 - x130002)) 10)) * 10))))))
def waymarkref54_Time.f (k : Nat) (a0_0 : Int) (a0_1 : Bool) (a0_2 : Int) (a1 : Int) : Option (Int × Bool × Int) := waymarkref54_Time.l0 k a1 0 a0_0 a0_1 a0_2
theorem waymarkref54_Time.mono_l : ∀ k, (∀ y0 y1 y2 y3 y4, LeO (waymarkref54_Time.l0 k y0 y1 y2 y3 y4) (waymarkref54_Time.l0 (k + 1) y0 y1 y2 y3 y4))
  | 0 => fun _ _ _ _ _ r h => by simp [waymarkref54_Time.l0] at h
  | k + 1 => by
    have ih0 := waymarkref54_Time.mono_l k
    · intro y0 y1 y2 y3 y4
      unfold waymarkref54_Time.l0
      repeat' first
      | (with_reducible exact ih0 _ _ _ _ _)
      | (with_reducible exact LeO.refl _)
      | (with_reducible exact LeO.none _)
      | (with_reducible refine LeO.ite ?_ ?_)
      | (with_reducible refine LeO.bind ?_ (fun _ => ?_))
      | exact ih0 _ _ _ _ _
      | exact LeO.none _
      | refine LeO.ite ?_ ?_
      | refine LeO.bind ?_ (fun _ => ?_)
theorem waymarkref54_Time.mono : ∀ a0 a1 a2 a3 k, LeO (waymarkref54_Time.f k a0 a1 a2 a3) (waymarkref54_Time.f (k + 1) a0 a1 a2 a3) := by
  intro a0 a1 a2 a3 k
  have ih0 := waymarkref54_Time.mono_l k
  unfold waymarkref54_Time.f
  repeat' first
      | (with_reducible exact ih0 _ _ _ _ _)
      | (with_reducible exact LeO.refl _)
      | (with_reducible exact LeO.none _)
      | (with_reducible refine LeO.ite ?_ ?_)
      | (with_reducible refine LeO.bind ?_ (fun _ => ?_))
      | exact ih0 _ _ _ _ _
      | exact LeO.none _
      | refine LeO.ite ?_ ?_
      | refine LeO.bind ?_ (fun _ => ?_)
/-! ### waymarkref54_Flap: function 27 -/
def waymarkref54_Flap.f (k : Nat) (a0_0 : Int) (a0_1 : Bool) (a0_2 : Int) (a1 : Int) : Option (Int × Bool × Int) := (waymarkref54_Time.f k a0_0 a0_1 a0_2 a1).bind fun bt133 => (if (wrap64 (bt133.1 + 1000)) > 8000 then (if 8000 ≥ 2000 then (some (8000, true, bt133.2.2)) else (some (8000, bt133.2.1, bt133.2.2))) else (if (wrap64 (bt133.1 + 1000)) ≥ 2000 then (some (wrap64 (bt133.1 + 1000), true, bt133.2.2)) else (some (wrap64 (bt133.1 + 1000), bt133.2.1, bt133.2.2))))
theorem waymarkref54_Flap.mono : ∀ a0 a1 a2 a3 k, LeO (waymarkref54_Flap.f k a0 a1 a2 a3) (waymarkref54_Flap.f (k + 1) a0 a1 a2 a3) := by
  intro a0 a1 a2 a3 k
  unfold waymarkref54_Flap.f
  repeat' first
      | (with_reducible exact waymarkref54_Time.mono _ _ _ _ _)
      | (with_reducible exact LeO.refl _)
      | (with_reducible exact LeO.none _)
      | (with_reducible refine LeO.ite ?_ ?_)
      | (with_reducible refine LeO.bind ?_ (fun _ => ?_))
      | exact waymarkref54_Time.mono _ _ _ _ _
      | exact LeO.none _
      | refine LeO.ite ?_ ?_
      | refine LeO.bind ?_ (fun _ => ?_)
/-! ### waymarklaw54_DampTurns: function 5 -/
def waymarklaw54_DampTurns.j0 : Nat → Int → Int → Int → Bool → Int → Bool → Int → Int → Bool → Int → Int → Bool → Int → Option (Bool)
  | 0, _, _, _, _, _, _, _, _, _, _, _, _, _ => none
  | k + 1, x1, x6, x8, x40, x137000, x137001, x137002, x142000, x142001, x142002, x147000, x147001, x147002 => if x40 = true then (if x6 = 1 then (if x8 = 1 then (if (x142000 == 0 && (!x142001 && (x142002 == 0))) = true then (if (x147000 == 0 && (!x147001 && (x147002 == 0))) = true then ((waymarklaw54_awake.f k).bind fun t149 => (some t149)) else (some false)) else (some false)) else (some false)) else (some false)) else (if x6 = 0 then (if x8 = 0 then ((waymarkref54_Time.f k x137000 x137001 x137002 x1).bind fun bt150 => (if (x142000 == bt150.1 && (x142001 == bt150.2.1 && (x142002 == bt150.2.2))) = true then ((waymarkref54_Flap.f k x137000 x137001 x137002 x1).bind fun bt153 => (if (x147000 == bt153.1 && (x147001 == bt153.2.1 && (x147002 == bt153.2.2))) = true then ((damp_Check.f x142000 x142001 x142002).bind fun t156 => (if t156 = 0 then ((damp_Check.f x147000 x147001 x147002).bind fun t157 => (if t157 = 0 then ((waymarklaw54_awake.f k).bind fun t158 => (some t158)) else (some false))) else (some false))) else (some false))) else (some false))) else (some false)) else (some false))
def waymarklaw54_DampTurns.f (k : Nat) (a0_0 : Int) (a0_1 : Bool) (a0_2 : Int) (a1 : Int) : Option (Bool) := (damp_Time.f a0_0 a0_1 a0_2 a1).bind fun bt137 => ((damp_Flap.f a0_0 a0_1 a0_2 a1).bind fun bt142 => ((waymarkref54_May.f a0_0 a0_1 a0_2).bind fun t147 => ((damp_Check.f a0_0 a0_1 a0_2).bind fun t148 => (if ((t148 == 0) != t147) = true then (some false) else (if t147 = true then (if a1 < a0_2 then (waymarklaw54_DampTurns.j0 k a1 bt137.2.2.2 bt142.2.2.2 true a0_0 a0_1 a0_2 bt137.1 bt137.2.1 bt137.2.2.1 bt142.1 bt142.2.1 bt142.2.2.1) else (waymarklaw54_DampTurns.j0 k a1 bt137.2.2.2 bt142.2.2.2 (decide (a1 > 1099511627776)) a0_0 a0_1 a0_2 bt137.1 bt137.2.1 bt137.2.2.1 bt142.1 bt142.2.1 bt142.2.2.1)) else (waymarklaw54_DampTurns.j0 k a1 bt137.2.2.2 bt142.2.2.2 true a0_0 a0_1 a0_2 bt137.1 bt137.2.1 bt137.2.2.1 bt142.1 bt142.2.1 bt142.2.2.1))))))
theorem waymarklaw54_DampTurns.mono_l : ∀ k, (∀ y0 y1 y2 y3 y4 y5 y6 y7 y8 y9 y10 y11 y12, LeO (waymarklaw54_DampTurns.j0 k y0 y1 y2 y3 y4 y5 y6 y7 y8 y9 y10 y11 y12) (waymarklaw54_DampTurns.j0 (k + 1) y0 y1 y2 y3 y4 y5 y6 y7 y8 y9 y10 y11 y12))
  | 0 => fun _ _ _ _ _ _ _ _ _ _ _ _ _ r h => by simp [waymarklaw54_DampTurns.j0] at h
  | k + 1 => by
    have ih0 := waymarklaw54_DampTurns.mono_l k
    · intro y0 y1 y2 y3 y4 y5 y6 y7 y8 y9 y10 y11 y12
      unfold waymarklaw54_DampTurns.j0
      repeat' first
      | (with_reducible exact ih0 _ _ _ _ _ _ _ _ _ _ _ _ _)
      | (with_reducible exact waymarklaw54_awake.mono _)
      | (with_reducible exact waymarkref54_Flap.mono _ _ _ _ _)
      | (with_reducible exact waymarkref54_Time.mono _ _ _ _ _)
      | (with_reducible exact LeO.refl _)
      | (with_reducible exact LeO.none _)
      | (with_reducible refine LeO.ite ?_ ?_)
      | (with_reducible refine LeO.bind ?_ (fun _ => ?_))
      | exact ih0 _ _ _ _ _ _ _ _ _ _ _ _ _
      | exact waymarklaw54_awake.mono _
      | exact waymarkref54_Flap.mono _ _ _ _ _
      | exact waymarkref54_Time.mono _ _ _ _ _
      | exact LeO.none _
      | refine LeO.ite ?_ ?_
      | refine LeO.bind ?_ (fun _ => ?_)
theorem waymarklaw54_DampTurns.mono : ∀ a0 a1 a2 a3 k, LeO (waymarklaw54_DampTurns.f k a0 a1 a2 a3) (waymarklaw54_DampTurns.f (k + 1) a0 a1 a2 a3) := by
  intro a0 a1 a2 a3 k
  have ih0 := waymarklaw54_DampTurns.mono_l k
  unfold waymarklaw54_DampTurns.f
  repeat' first
      | (with_reducible exact ih0 _ _ _ _ _ _ _ _ _ _ _ _ _)
      | (with_reducible exact waymarklaw54_awake.mono _)
      | (with_reducible exact waymarkref54_Flap.mono _ _ _ _ _)
      | (with_reducible exact waymarkref54_Time.mono _ _ _ _ _)
      | (with_reducible exact LeO.refl _)
      | (with_reducible exact LeO.none _)
      | (with_reducible refine LeO.ite ?_ ?_)
      | (with_reducible refine LeO.bind ?_ (fun _ => ?_))
      | exact ih0 _ _ _ _ _ _ _ _ _ _ _ _ _
      | exact waymarklaw54_awake.mono _
      | exact waymarkref54_Flap.mono _ _ _ _ _
      | exact waymarkref54_Time.mono _ _ _ _ _
      | exact LeO.none _
      | refine LeO.ite ?_ ?_
      | refine LeO.bind ?_ (fun _ => ?_)
/-! ### waymarklaw54_DampWaits: function 6 -/
mutual
def waymarklaw54_DampWaits.j0 : Nat → Int → Bool → Int → Bool → Int → Option (Bool)
  | 0, _, _, _, _, _ => none
  | k + 1, x1, x17, x130000, x130001, x130002 => if x17 = true then ((damp_Wait.f k x130000 x130001 x130002).bind fun t131 => (if t131 ≥ 0 then ((waymarklaw54_awake.f k).bind fun t132 => (some t132)) else (some false))) else ((damp_Wait.f k x130000 x130001 x130002).bind fun t133 => (if x130001 = true then (waymarklaw54_DampWaits.j1 k x1 t133 (decide (x130000 < 750)) x130000 x130001 x130002) else (waymarklaw54_DampWaits.j1 k x1 t133 true x130000 x130001 x130002)))
def waymarklaw54_DampWaits.j1 : Nat → Int → Int → Bool → Int → Bool → Int → Option (Bool)
  | 0, _, _, _, _, _, _ => none
  | k + 1, x1, x5, x33, x130000, x130001, x130002 => if x33 = true then (if x5 = 0 then ((waymarklaw54_awake.f k).bind fun t134 => (some t134)) else (some false)) else ((damp_Time.f x130000 x130001 x130002 (wrap64 ((wrap64 (x130002 + x5)) - 1))).bind fun bt135 => ((damp_Time.f x130000 x130001 x130002 (wrap64 ((wrap64 (x130002 + x5)) + (wrap64 (x1))))).bind fun bt140 => (if x5 > 0 then (if x5 ≤ 40 then (if bt135.2.2.2 = 0 then (if bt135.2.1 = true then (if bt140.2.2.2 = 0 then (if bt140.2.1 = true then (some false) else ((waymarklaw54_awake.f k).bind fun t145 => (some t145))) else (some false)) else (some false)) else (some false)) else (some false)) else (some false))))
end
def waymarklaw54_DampWaits.f (k : Nat) (a0_0 : Int) (a0_1 : Bool) (a0_2 : Int) (a1 : Int) : Option (Bool) := (waymarkref54_May.f a0_0 a0_1 a0_2).bind fun t130 => (if t130 = true then (waymarklaw54_DampWaits.j0 k a1 (decide (a0_2 > 549755813888)) a0_0 a0_1 a0_2) else (waymarklaw54_DampWaits.j0 k a1 true a0_0 a0_1 a0_2))
theorem waymarklaw54_DampWaits.mono_l : ∀ k, (∀ y0 y1 y2 y3 y4, LeO (waymarklaw54_DampWaits.j0 k y0 y1 y2 y3 y4) (waymarklaw54_DampWaits.j0 (k + 1) y0 y1 y2 y3 y4)) ∧ (∀ y0 y1 y2 y3 y4 y5, LeO (waymarklaw54_DampWaits.j1 k y0 y1 y2 y3 y4 y5) (waymarklaw54_DampWaits.j1 (k + 1) y0 y1 y2 y3 y4 y5))
  | 0 => ⟨fun _ _ _ _ _ r h => by simp [waymarklaw54_DampWaits.j0] at h, fun _ _ _ _ _ _ r h => by simp [waymarklaw54_DampWaits.j1] at h⟩
  | k + 1 => by
    obtain ⟨ih0, ih1⟩ := waymarklaw54_DampWaits.mono_l k
    refine ⟨?_, ?_⟩
    · intro y0 y1 y2 y3 y4
      unfold waymarklaw54_DampWaits.j0
      repeat' first
      | (with_reducible exact ih0 _ _ _ _ _)
      | (with_reducible exact ih1 _ _ _ _ _ _)
      | (with_reducible exact damp_Wait.mono _ _ _ _)
      | (with_reducible exact waymarklaw54_awake.mono _)
      | (with_reducible exact LeO.refl _)
      | (with_reducible exact LeO.none _)
      | (with_reducible refine LeO.ite ?_ ?_)
      | (with_reducible refine LeO.bind ?_ (fun _ => ?_))
      | exact ih0 _ _ _ _ _
      | exact ih1 _ _ _ _ _ _
      | exact damp_Wait.mono _ _ _ _
      | exact waymarklaw54_awake.mono _
      | exact LeO.none _
      | refine LeO.ite ?_ ?_
      | refine LeO.bind ?_ (fun _ => ?_)
    · intro y0 y1 y2 y3 y4 y5
      unfold waymarklaw54_DampWaits.j1
      repeat' first
      | (with_reducible exact ih0 _ _ _ _ _)
      | (with_reducible exact ih1 _ _ _ _ _ _)
      | (with_reducible exact damp_Wait.mono _ _ _ _)
      | (with_reducible exact waymarklaw54_awake.mono _)
      | (with_reducible exact LeO.refl _)
      | (with_reducible exact LeO.none _)
      | (with_reducible refine LeO.ite ?_ ?_)
      | (with_reducible refine LeO.bind ?_ (fun _ => ?_))
      | exact ih0 _ _ _ _ _
      | exact ih1 _ _ _ _ _ _
      | exact damp_Wait.mono _ _ _ _
      | exact waymarklaw54_awake.mono _
      | exact LeO.none _
      | refine LeO.ite ?_ ?_
      | refine LeO.bind ?_ (fun _ => ?_)
theorem waymarklaw54_DampWaits.mono : ∀ a0 a1 a2 a3 k, LeO (waymarklaw54_DampWaits.f k a0 a1 a2 a3) (waymarklaw54_DampWaits.f (k + 1) a0 a1 a2 a3) := by
  intro a0 a1 a2 a3 k
  obtain ⟨ih0, ih1⟩ := waymarklaw54_DampWaits.mono_l k
  unfold waymarklaw54_DampWaits.f
  repeat' first
      | (with_reducible exact ih0 _ _ _ _ _)
      | (with_reducible exact ih1 _ _ _ _ _ _)
      | (with_reducible exact damp_Wait.mono _ _ _ _)
      | (with_reducible exact waymarklaw54_awake.mono _)
      | (with_reducible exact LeO.refl _)
      | (with_reducible exact LeO.none _)
      | (with_reducible refine LeO.ite ?_ ?_)
      | (with_reducible refine LeO.bind ?_ (fun _ => ?_))
      | exact ih0 _ _ _ _ _
      | exact ih1 _ _ _ _ _ _
      | exact damp_Wait.mono _ _ _ _
      | exact waymarklaw54_awake.mono _
      | exact LeO.none _
      | refine LeO.ite ?_ ?_
      | refine LeO.bind ?_ (fun _ => ?_)
/-! ### waymarklaw54_DampParts: function 7 -/
def waymarklaw54_DampParts.j0 : Nat → Int → Int → Bool → Int → Bool → Int → Option (Bool)
  | 0, _, _, _, _, _, _ => none
  | k + 1, x1, x2, x20, x130000, x130001, x130002 => if x20 = true then ((waymarklaw54_awake.f k).bind fun t131 => (some t131)) else ((damp_Time.f x130000 x130001 x130002 (wrap64 (x130002 + (wrap64 (10 * (wrap64 (Int.tmod x1 19))))))).bind fun bt132 => ((damp_Time.f bt132.1 bt132.2.1 bt132.2.2.1 (wrap64 ((wrap64 (x130002 + (wrap64 (10 * (wrap64 (Int.tmod x1 19)))))) + (wrap64 (x2))))).bind fun bt137 => ((damp_Time.f x130000 x130001 x130002 (wrap64 ((wrap64 (x130002 + (wrap64 (10 * (wrap64 (Int.tmod x1 19)))))) + (wrap64 (x2))))).bind fun bt142 => (if bt132.2.2.2 = 0 then (if bt137.2.2.2 = 0 then (if bt142.2.2.2 = 0 then (if (bt137.1 == bt142.1 && (bt137.2.1 == bt142.2.1 && (bt137.2.2.1 == bt142.2.2.1))) = true then ((waymarklaw54_awake.f k).bind fun t147 => (some t147)) else (some false)) else (some false)) else (some false)) else (some false)))))
def waymarklaw54_DampParts.f (k : Nat) (a0_0 : Int) (a0_1 : Bool) (a0_2 : Int) (a1 : Int) (a2 : Int) : Option (Bool) := (waymarkref54_May.f a0_0 a0_1 a0_2).bind fun t130 => (if t130 = true then (waymarklaw54_DampParts.j0 k a1 a2 (decide (a0_2 > 549755813888)) a0_0 a0_1 a0_2) else (waymarklaw54_DampParts.j0 k a1 a2 true a0_0 a0_1 a0_2))
theorem waymarklaw54_DampParts.mono_l : ∀ k, (∀ y0 y1 y2 y3 y4 y5, LeO (waymarklaw54_DampParts.j0 k y0 y1 y2 y3 y4 y5) (waymarklaw54_DampParts.j0 (k + 1) y0 y1 y2 y3 y4 y5))
  | 0 => fun _ _ _ _ _ _ r h => by simp [waymarklaw54_DampParts.j0] at h
  | k + 1 => by
    have ih0 := waymarklaw54_DampParts.mono_l k
    · intro y0 y1 y2 y3 y4 y5
      unfold waymarklaw54_DampParts.j0
      repeat' first
      | (with_reducible exact ih0 _ _ _ _ _ _)
      | (with_reducible exact waymarklaw54_awake.mono _)
      | (with_reducible exact LeO.refl _)
      | (with_reducible exact LeO.none _)
      | (with_reducible refine LeO.ite ?_ ?_)
      | (with_reducible refine LeO.bind ?_ (fun _ => ?_))
      | exact ih0 _ _ _ _ _ _
      | exact waymarklaw54_awake.mono _
      | exact LeO.none _
      | refine LeO.ite ?_ ?_
      | refine LeO.bind ?_ (fun _ => ?_)
theorem waymarklaw54_DampParts.mono : ∀ a0 a1 a2 a3 a4 k, LeO (waymarklaw54_DampParts.f k a0 a1 a2 a3 a4) (waymarklaw54_DampParts.f (k + 1) a0 a1 a2 a3 a4) := by
  intro a0 a1 a2 a3 a4 k
  have ih0 := waymarklaw54_DampParts.mono_l k
  unfold waymarklaw54_DampParts.f
  repeat' first
      | (with_reducible exact ih0 _ _ _ _ _ _)
      | (with_reducible exact waymarklaw54_awake.mono _)
      | (with_reducible exact LeO.refl _)
      | (with_reducible exact LeO.none _)
      | (with_reducible refine LeO.ite ?_ ?_)
      | (with_reducible refine LeO.bind ?_ (fun _ => ?_))
      | exact ih0 _ _ _ _ _ _
      | exact waymarklaw54_awake.mono _
      | exact LeO.none _
      | refine LeO.ite ?_ ?_
      | refine LeO.bind ?_ (fun _ => ?_)
end Go.Proofs.Ytdkobokdeofiiaa.Dm
