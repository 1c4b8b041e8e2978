/- The query's reference functions as Lean functions (printed by the kit), for every input. -/
import Derived.Test.YthimnnnfgangbaaDoorProg
import Derived.Below
import Derived.Deep.Draws
import Derived.Deep.AppendLies
import Derived.Maps.AppendAt
import Derived.OwnWalk
import Derived.Laws.BytesArg
import Derived.Laws.MakeOwn
import Derived.Laws.OwnMore
import Derived.Deep.OwnRows
import Derived.Tactics
import Derived.Lib.ConvBytes
import Derived.Laws.Slices
import Derived.WalkKit
import Derived.KernelRfl
import Derived.RowKit3
import Derived.Deep.LoopGhost
import Derived.Deep.QuietTactic
import Derived.BigQuiet
import Derived.WideLaws
import Derived.Deep.DeepCutAuto
import Derived.Deep.CutBlock
import Derived.Deep.RegionHeld3
import Derived.Laws.Rows
import Derived.Lib.AppendStr
import Derived.ArgAppend
import Derived.Laws.IdiomCopy
import Derived.OrdersHeld
import Derived.Laws.BitsLemmas
import Derived.RowKit
import Derived.Test.YthimnnnfgangbaaDoorWWords
import Derived.Test.YthimnnnfgangbaaDoorWLast
import Derived.Test.YthimnnnfgangbaaDoorWTab
import Derived.Test.YthimnnnfgangbaaDoorWFour
import Derived.Test.YthimnnnfgangbaaDoorWQPut
import Derived.Test.YthimnnnfgangbaaDoorWApart
import Derived.Test.YthimnnnfgangbaaDoorWArr
import Derived.Test.YthimnnnfgangbaaDoorWZeros
import Derived.Test.YthimnnnfgangbaaDoorWFoot
import Derived.Test.YthimnnnfgangbaaDoorWKept
import Derived.Test.YthimnnnfgangbaaDoorWShare
import Derived.Test.YthimnnnfgangbaaDoorWN
import Derived.Test.YthimnnnfgangbaaDoorWFootNe
import Derived.Test.YthimnnnfgangbaaDoorWAt
import Derived.Test.YthimnnnfgangbaaDoorWEqStruct
import Derived.Test.YthimnnnfgangbaaDoorWRepsOne
import Derived.Test.YthimnnnfgangbaaDoorWInv
import Derived.Test.YthimnnnfgangbaaDoorWInvWords
import Derived.Test.YthimnnnfgangbaaDoorWGuard
import Derived.Test.YthimnnnfgangbaaDoorWNEv
import Derived.Test.YthimnnnfgangbaaDoorWMore
set_option linter.unusedVariables false
set_option linter.unusedSimpArgs false
namespace Go.Proofs.YthimnnnfgangbaaDoor.Qr
open Go.RowKit Go.Proofs.YthimnnnfgangbaaDoorW.PrintWords Go.Proofs.YthimnnnfgangbaaDoorW.PrintLast Go.Proofs.YthimnnnfgangbaaDoorW.PrintMore
attribute [local go_sem] max2_int min2_int max_two min_two max_three min_three max_four min_four




def errW : Option Int → Value
  | none => .nilIface
  | some c => .iface 0 (.int .i64 c)
theorem errW_none : errW none = .nilIface := rfl
theorem errW_some (c : Int) : errW (some c) = .iface 0 (.int .i64 c) := rfl

-- the values' own types



-- NOT PRINTED: function 13 (query_Word)

-- NOT PRINTED: function 85 (abi_NoEscape)

-- NOT PRINTED: function 71 (strings_Builder_copyCheck)

-- NOT PRINTED: function 49 (strings_Builder_WriteString)

-- NOT PRINTED: function 52 (strings_Builder_WriteByte)

-- NOT PRINTED: function 67 (strings_Builder_Len)

-- NOT PRINTED: function 36 (query_line_word)



/-! ### query_how: function 39 -/
def query_how.f (a0_0 : Int) (a0_1 : Int) (a0_2 : Int) (a0_3 : Int) (a0_4 : Bool) (a0_5 : Bool) (a0_6 : Int) (a0_7 : Bool) : Option (ByteArray) := if a0_5 = true then (some (⟨#[102, 117, 108, 108]⟩ : ByteArray)) else (if a0_4 = true then (some (⟨#[104, 101, 97, 114, 100]⟩ : ByteArray)) else (some (⟨#[115, 105, 108, 101, 110, 116]⟩ : ByteArray)))
/-! ### waymarkref30_Long: function 42 -/
def waymarkref30_Long.f : Nat → Int → Option (ByteArray)
  | 0, _ => none
  | k + 1, a0 => if a0 < 10 then (if 0 ≤ a0 then (if a0 ≤ (IntKind.u64.wrap (a0 + 1)) then (if (IntKind.u64.wrap (a0 + 1)) ≤ 10 then (some ((⟨#[48, 49, 50, 51, 52, 53, 54, 55, 56, 57]⟩ : ByteArray).extract (a0 : Int).toNat ((IntKind.u64.wrap (a0 + 1)) : Int).toNat)) else (none)) else (none)) else (none)) else ((waymarkref30_Long.f k (IntKind.u64.wrap (Int.tdiv a0 10))).bind fun t124 => (if 0 ≤ (Int.tmod a0 10) then (if (Int.tmod a0 10) ≤ (IntKind.u64.wrap ((Int.tmod a0 10) + 1)) then (if (IntKind.u64.wrap ((Int.tmod a0 10) + 1)) ≤ 10 then (if t124.size + ((⟨#[48, 49, 50, 51, 52, 53, 54, 55, 56, 57]⟩ : ByteArray).extract ((Int.tmod a0 10) : Int).toNat ((IntKind.u64.wrap ((Int.tmod a0 10) + 1)) : Int).toNat).size ≤ 9223372036854775807 then (some (t124 ++ ((⟨#[48, 49, 50, 51, 52, 53, 54, 55, 56, 57]⟩ : ByteArray).extract ((Int.tmod a0 10) : Int).toNat ((IntKind.u64.wrap ((Int.tmod a0 10) + 1)) : Int).toNat))) else (none)) else (none)) else (none)) else (none)))
theorem waymarkref30_Long.mono_l : ∀ k, (∀ y0, LeO (waymarkref30_Long.f k y0) (waymarkref30_Long.f (k + 1) y0))
  | 0 => fun _ r h => by simp [waymarkref30_Long.f] at h
  | k + 1 => by
    have ih0 := waymarkref30_Long.mono_l k
    · intro y0
      unfold waymarkref30_Long.f
      repeat' first
      | (with_reducible exact ih0 _)
      | (with_reducible exact LeO.refl _)
      | (with_reducible exact LeO.none _)
      | (with_reducible refine LeO.ite ?_ ?_)
      | (with_reducible refine LeO.bind ?_ (fun _ => ?_))
      | exact ih0 _
      | exact LeO.none _
      | refine LeO.ite ?_ ?_
      | refine LeO.bind ?_ (fun _ => ?_)
theorem waymarkref30_Long.mono : ∀ a0 k, LeO (waymarkref30_Long.f k a0) (waymarkref30_Long.f (k + 1) a0) := by
  intro a0 k
  have ih0 := waymarkref30_Long.mono_l k
  exact ih0 a0
/-! ### waymarkref30_Digits: function 41 -/
def waymarkref30_Digits.f (k : Nat) (a0 : Int) : Option (ByteArray) := if a0 < 0 then ((waymarkref30_Long.f k (IntKind.u64.wrap ((IntKind.u64.wrap (wrap64 (-(wrap64 (a0 + 1))))) + 1))).bind fun t125 => (if 1 + t125.size ≤ 9223372036854775807 then (some ((⟨#[45]⟩ : ByteArray) ++ t125)) else (none))) else ((waymarkref30_Long.f k (IntKind.u64.wrap (a0))).bind fun t126 => (some t126))
theorem waymarkref30_Digits.mono : ∀ a0 k, LeO (waymarkref30_Digits.f k a0) (waymarkref30_Digits.f (k + 1) a0) := by
  intro a0 k
  unfold waymarkref30_Digits.f
  repeat' first
      | (with_reducible exact waymarkref30_Long.mono _ _)
      | (with_reducible exact LeO.refl _)
      | (with_reducible exact LeO.none _)
      | (with_reducible refine LeO.ite ?_ ?_)
      | (with_reducible refine LeO.bind ?_ (fun _ => ?_))
      | exact waymarkref30_Long.mono _ _
      | exact LeO.none _
      | refine LeO.ite ?_ ?_
      | refine LeO.bind ?_ (fun _ => ?_)
/-! ### waymarkref30_Wire: function 16 -/
def waymarkref30_Wire.f (k : Nat) (a0_0 : Int) (a0_1 : Int) (a0_2 : Bool) (a0_3 : Int) (a0_4 : Int) : Option (ByteArray) := (waymarkref30_Digits.f k a0_0).bind fun t128 => (if 5 + t128.size ≤ 9223372036854775807 then (if ((⟨#[119, 105, 114, 101, 32]⟩ : ByteArray) ++ t128).size + 1 ≤ 9223372036854775807 then ((waymarkref30_Digits.f k a0_1).bind fun t129 => (if (((⟨#[119, 105, 114, 101, 32]⟩ : ByteArray) ++ t128) ++ (⟨#[32]⟩ : ByteArray)).size + t129.size ≤ 9223372036854775807 then (if a0_2 = true then (if ((((⟨#[119, 105, 114, 101, 32]⟩ : ByteArray) ++ t128) ++ (⟨#[32]⟩ : ByteArray)) ++ t129).size + 4 ≤ 9223372036854775807 then ((waymarkref30_Digits.f k a0_3).bind fun t130 => (if (((((⟨#[119, 105, 114, 101, 32]⟩ : ByteArray) ++ t128) ++ (⟨#[32]⟩ : ByteArray)) ++ t129) ++ (⟨#[32, 117, 112, 32]⟩ : ByteArray)).size + t130.size ≤ 9223372036854775807 then (if ((((((⟨#[119, 105, 114, 101, 32]⟩ : ByteArray) ++ t128) ++ (⟨#[32]⟩ : ByteArray)) ++ t129) ++ (⟨#[32, 117, 112, 32]⟩ : ByteArray)) ++ t130).size + 1 ≤ 9223372036854775807 then ((waymarkref30_Digits.f k a0_4).bind fun t131 => (if (((((((⟨#[119, 105, 114, 101, 32]⟩ : ByteArray) ++ t128) ++ (⟨#[32]⟩ : ByteArray)) ++ t129) ++ (⟨#[32, 117, 112, 32]⟩ : ByteArray)) ++ t130) ++ (⟨#[32]⟩ : ByteArray)).size + t131.size ≤ 9223372036854775807 then (some ((((((((⟨#[119, 105, 114, 101, 32]⟩ : ByteArray) ++ t128) ++ (⟨#[32]⟩ : ByteArray)) ++ t129) ++ (⟨#[32, 117, 112, 32]⟩ : ByteArray)) ++ t130) ++ (⟨#[32]⟩ : ByteArray)) ++ t131)) else (none))) else (none)) else (none))) else (none)) else (if ((((⟨#[119, 105, 114, 101, 32]⟩ : ByteArray) ++ t128) ++ (⟨#[32]⟩ : ByteArray)) ++ t129).size + 6 ≤ 9223372036854775807 then ((waymarkref30_Digits.f k a0_3).bind fun t132 => (if (((((⟨#[119, 105, 114, 101, 32]⟩ : ByteArray) ++ t128) ++ (⟨#[32]⟩ : ByteArray)) ++ t129) ++ (⟨#[32, 100, 111, 119, 110, 32]⟩ : ByteArray)).size + t132.size ≤ 9223372036854775807 then (if ((((((⟨#[119, 105, 114, 101, 32]⟩ : ByteArray) ++ t128) ++ (⟨#[32]⟩ : ByteArray)) ++ t129) ++ (⟨#[32, 100, 111, 119, 110, 32]⟩ : ByteArray)) ++ t132).size + 1 ≤ 9223372036854775807 then ((waymarkref30_Digits.f k a0_4).bind fun t133 => (if (((((((⟨#[119, 105, 114, 101, 32]⟩ : ByteArray) ++ t128) ++ (⟨#[32]⟩ : ByteArray)) ++ t129) ++ (⟨#[32, 100, 111, 119, 110, 32]⟩ : ByteArray)) ++ t132) ++ (⟨#[32]⟩ : ByteArray)).size + t133.size ≤ 9223372036854775807 then (some ((((((((⟨#[119, 105, 114, 101, 32]⟩ : ByteArray) ++ t128) ++ (⟨#[32]⟩ : ByteArray)) ++ t129) ++ (⟨#[32, 100, 111, 119, 110, 32]⟩ : ByteArray)) ++ t132) ++ (⟨#[32]⟩ : ByteArray)) ++ t133)) else (none))) else (none)) else (none))) else (none))) else (none))) else (none)) else (none))
theorem waymarkref30_Wire.mono : ∀ a0 a1 a2 a3 a4 k, LeO (waymarkref30_Wire.f k a0 a1 a2 a3 a4) (waymarkref30_Wire.f (k + 1) a0 a1 a2 a3 a4) := by
  intro a0 a1 a2 a3 a4 k
  unfold waymarkref30_Wire.f
  repeat' first
      | (with_reducible exact waymarkref30_Digits.mono _ _)
      | (with_reducible exact LeO.refl _)
      | (with_reducible exact LeO.none _)
      | (with_reducible refine LeO.ite ?_ ?_)
      | (with_reducible refine LeO.bind ?_ (fun _ => ?_))
      | exact waymarkref30_Digits.mono _ _
      | exact LeO.none _
      | refine LeO.ite ?_ ?_
      | refine LeO.bind ?_ (fun _ => ?_)
/-! ### waymarkref30_Words: function 43 -/
def waymarkref30_Words.f  : Option (List ByteArray) := some (([(⟨#[111, 107]⟩ : ByteArray), (⟨#[97, 114, 103]⟩ : ByteArray), (⟨#[116, 101, 120, 116]⟩ : ByteArray), (⟨#[110, 111, 110, 101]⟩ : ByteArray), (⟨#[102, 117, 108, 108]⟩ : ByteArray), (⟨#[98, 105, 103]⟩ : ByteArray), (⟨#[115, 116, 97, 116, 101]⟩ : ByteArray), (⟨#[100, 101, 97, 100]⟩ : ByteArray), (⟨#[99, 111, 114, 114, 117, 112, 116]⟩ : ByteArray), (⟨#[115, 112, 101, 110, 116]⟩ : ByteArray), (⟨#[111, 108, 100]⟩ : ByteArray)] : List ByteArray))
/-! ### waymarkref30_Word: function 14 -/
def waymarkref30_Word.f (a0 : Int) : Option (ByteArray) := if a0 < 0 then (some (⟨#[101, 114, 114, 111, 114]⟩ : ByteArray)) else (if a0 > 10 then (some (⟨#[101, 114, 114, 111, 114]⟩ : ByteArray)) else ((waymarkref30_Words.f).bind fun t127 => (if 0 ≤ a0 then (if a0 < (t127.length : Int) then (some (rdOf ByteArray.empty t127 a0)) else (none)) else (none))))
end Go.Proofs.YthimnnnfgangbaaDoor.Qr
