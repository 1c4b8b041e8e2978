/- The heap's reference functions as Lean functions (printed by the kit), for every input. -/
import Derived.Test.YtdkobokdeofiiaaProg
import Derived.Below
import Derived.Deep.Draws
import Derived.Deep.AppendLies
import Derived.Maps.AppendAt
import Derived.OwnWalk
import Derived.Laws.BytesArg
import Derived.Laws.MakeOwn
import Derived.Laws.OwnMore
import Derived.Deep.OwnRows
import Derived.Tactics
import Derived.Lib.ConvBytes
import Derived.Laws.Slices
import Derived.WalkKit
import Derived.KernelRfl
import Derived.RowKit3
import Derived.Deep.LoopGhost
import Derived.Deep.QuietTactic
import Derived.BigQuiet
import Derived.WideLaws
import Derived.Deep.DeepCutAuto
import Derived.Deep.CutBlock
import Derived.Deep.RegionHeld3
import Derived.Laws.Rows
import Derived.Lib.AppendStr
import Derived.ArgAppend
import Derived.Laws.IdiomCopy
import Derived.OrdersHeld
import Derived.Laws.BitsLemmas
import Derived.RowKit
import Derived.Test.YtdkobokdeofiiaaWWords
import Derived.Test.YtdkobokdeofiiaaWLast
import Derived.Test.YtdkobokdeofiiaaWTab
import Derived.Test.YtdkobokdeofiiaaWFour
import Derived.Test.YtdkobokdeofiiaaWQPut
import Derived.Test.YtdkobokdeofiiaaWApart
import Derived.Test.YtdkobokdeofiiaaWArr
import Derived.Test.YtdkobokdeofiiaaWZeros
import Derived.Test.YtdkobokdeofiiaaWFoot
import Derived.Test.YtdkobokdeofiiaaWKept
import Derived.Test.YtdkobokdeofiiaaWShare
import Derived.Test.YtdkobokdeofiiaaWN
import Derived.Test.YtdkobokdeofiiaaWFootNe
import Derived.Test.YtdkobokdeofiiaaWAt
import Derived.Test.YtdkobokdeofiiaaWEqStruct
import Derived.Test.YtdkobokdeofiiaaWRepsOne
import Derived.Test.YtdkobokdeofiiaaWInv
import Derived.Test.YtdkobokdeofiiaaWInvWords
import Derived.Test.YtdkobokdeofiiaaWGuard
import Derived.Test.YtdkobokdeofiiaaWNEv
import Derived.Test.YtdkobokdeofiiaaWMore
set_option linter.unusedVariables false
set_option linter.unusedSimpArgs false
namespace Go.Proofs.Ytdkobokdeofiiaa.Hp
open Go.RowKit Go.Proofs.YtdkobokdeofiiaaW.PrintWords Go.Proofs.YtdkobokdeofiiaaW.PrintLast Go.Proofs.YtdkobokdeofiiaaW.PrintMore
attribute [local go_sem] max2_int min2_int max_two min_two max_three min_three max_four min_four




def errW : Option Int → Value
  | none => .nilIface
  | some c => .iface 0 (.int .i64 c)
theorem errW_none : errW none = .nilIface := rfl
theorem errW_some (c : Int) : errW (some c) = .iface 0 (.int .i64 c) := rfl

theorem info30 : (Try.prog.info? 30).map (fun i => (i.zero, i.size, i.bytes)) = some (some (.agg #[(.int .u64 0), (.int .i64 0)]), 2, 16) := by kernel_rfl
-- the values' own types
/-! #### struct type 30 -/
structure S30 where
  f0 : Int
  f1 : Int
def z30 : S30 := ⟨(0 : Int), (0 : Int)⟩
def k30 : Kd S30 := Kd.iso (Kd.pair (Kd.int .u64) (Kd.int .i64)) (fun x : S30 => (x.f0, x.f1))
theorem k30_open {w : World} {x : S30} {cs : List Value} (h : k30.K w x cs) : cs = [.int .u64 x.f0, .int .i64 x.f1] := by
  obtain ⟨_, _, rfl, rfl, rfl⟩ := h
  exact rfl
theorem k30_openM {w : World} {base : Nat} {ok : Nat → Prop} {x : S30} {cs : List Value} (h : k30.M w base ok x cs) : cs = [.int .u64 x.f0, .int .i64 x.f1] := by
  obtain ⟨_, _, rfl, rfl, rfl⟩ := h
  exact rfl
theorem k30_mk (w : World) (x : S30)  : k30.K w x [.int .u64 x.f0, .int .i64 x.f1] := ⟨[.int .u64 x.f0], [.int .i64 x.f1], rfl, rfl, rfl⟩
theorem k30_mkM (w : World) (base : Nat) (ok : Nat → Prop) (x : S30)  : k30.M w base ok x [.int .u64 x.f0, .int .i64 x.f1] := ⟨[.int .u64 x.f0], [.int .i64 x.f1], rfl, rfl, rfl⟩
def rd_T30 (xs : List S30) (i : Int) : S30 := xs.getD i.toNat z30
theorem at_T30 {w : World} {A : Option Addr} {n : Nat} {xs : List S30} (h : Kd.C k30 w A n xs) (i : Int) (h0 : 0 ≤ i) (h1 : i < n) : ∃ ad , A = some ad ∧ w.cell? (ad.add (i.toNat * 2)) = some (.int .u64 (rd_T30 xs i).f0) ∧ w.cell? ⟨(ad.add (i.toNat * 2)).block, (ad.add (i.toNat * 2)).off + 1, none⟩ = some (.int .i64 (rd_T30 xs i).f1) := by
  obtain ⟨ad, c, e, _, hK, hc0⟩ := Kd.C_get h z30 i h0 h1
  have hc : ∀ j u, c[j]? = some u → w.cell? (ad.add (i.toNat * 2 + j)) = some u := hc0
  obtain rfl := k30_open hK
  exact ⟨ad, e, hc 0 _ rfl, by rw [← add_field _ _ 1 (by omega)]; exact hc 1 _ rfl⟩



/-! ### cost_Less: function 19 -/
def cost_Less.f (a0_0 : Int) (a0_1 : Int) (a1_0 : Int) (a1_1 : Int) : Option (Bool) := if a0_0 = a1_0 then (some (decide (a0_1 < a1_1))) else (some (decide (a0_0 < a1_0)))
/-! ### waymarkref22_Less: function 20 -/
def waymarkref22_Less.f (a0_0 : Int) (a0_1 : Int) (a1_0 : Int) (a1_1 : Int) : Option (Bool) := if a0_0 < a1_0 then (some true) else (if a0_0 = a1_0 then (some (decide (a0_1 < a1_1))) else (some false))
/-! ### waymarkref23_First: function 37 -/
def waymarkref23_First.l0 : Nat → List (S30) → Int → Int → Option (Int)
  | 0, _, _, _ => none
  | k + 1, x0, x3, x4 => if x4 < (x0.length : Int) then (if 0 ≤ x4 then (if 0 ≤ x3 then (if x3 < (x0.length : Int) then ((waymarkref22_Less.f ((rd_T30 x0 x4).f0) ((rd_T30 x0 x4).f1) ((rd_T30 x0 x3).f0) ((rd_T30 x0 x3).f1)).bind fun t119 => (if t119 = true then (waymarkref23_First.l0 k x0 x4 (wrap64 (x4 + 1))) else (waymarkref23_First.l0 k x0 x3 (wrap64 (x4 + 1))))) else (none)) else (none)) else (none)) else (some x3)
def waymarkref23_First.f (k : Nat) (l0 : List (S30)) : Option (Int) := waymarkref23_First.l0 k l0 0 1
theorem waymarkref23_First.mono_l : ∀ k, (∀ y0 y1 y2, LeO (waymarkref23_First.l0 k y0 y1 y2) (waymarkref23_First.l0 (k + 1) y0 y1 y2))
  | 0 => fun _ _ _ r h => by simp [waymarkref23_First.l0] at h
  | k + 1 => by
    have ih0 := waymarkref23_First.mono_l k
    · intro y0 y1 y2
      unfold waymarkref23_First.l0
      repeat' first
      | (with_reducible exact ih0 _ _ _)
      | (with_reducible exact LeO.refl _)
      | (with_reducible exact LeO.none _)
      | (with_reducible refine LeO.ite ?_ ?_)
      | (with_reducible refine LeO.bind ?_ (fun _ => ?_))
      | exact ih0 _ _ _
      | exact LeO.none _
      | refine LeO.ite ?_ ?_
      | refine LeO.bind ?_ (fun _ => ?_)
theorem waymarkref23_First.mono : ∀ a0 k, LeO (waymarkref23_First.f k a0) (waymarkref23_First.f (k + 1) a0) := by
  intro a0 k
  have ih0 := waymarkref23_First.mono_l k
  unfold waymarkref23_First.f
  repeat' first
      | (with_reducible exact ih0 _ _ _)
      | (with_reducible exact LeO.refl _)
      | (with_reducible exact LeO.none _)
      | (with_reducible refine LeO.ite ?_ ?_)
      | (with_reducible refine LeO.bind ?_ (fun _ => ?_))
      | exact ih0 _ _ _
      | exact LeO.none _
      | refine LeO.ite ?_ ?_
      | refine LeO.bind ?_ (fun _ => ?_)
/-! ### waymarkref23_Without: function 38 -/
def waymarkref23_Without.f (l0 : List (S30)) (a1 : Int) : Option ((List (S30))) := (some (([] : List (S30)) : List (S30))).bind fun y120 => (if 0 ≤ a1 then (if a1 ≤ (l0.length : Int) then ((some (l0.take (a1 : Int).toNat : List (S30))).bind fun y123 => (if y120.length + y123.length < 8796093022208 then ((some (y120 ++ y123 : List (S30))).bind fun y127 => (if 0 ≤ (wrap64 (a1 + 1)) then (if (wrap64 (a1 + 1)) ≤ (l0.length : Int) then ((some (l0.drop ((wrap64 (a1 + 1)) : Int).toNat : List (S30))).bind fun y130 => (if y127.length + y130.length < 8796093022208 then (some (y127 ++ y130)) else (none))) else (none)) else (none))) else (none))) else (none)) else (none))
end Go.Proofs.Ytdkobokdeofiiaa.Hp
