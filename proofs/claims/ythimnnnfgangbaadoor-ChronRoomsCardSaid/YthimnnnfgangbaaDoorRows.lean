/-
  NARROWER THAN 'FOR EVERY INPUT', by the rows' own cells (each row's printed sentence says how): QueryLines: laid · QueryWires: laid · QueryApart: laid · ChronTells: laid · ChronRooms: laid · StatsCounts: laid · StatsJoins: laid.
  DERIVED. THE GIVEN ROWS OF THIS SEAT. 7 by the template 'for every input the law returns true; each argument reads behind the call as it read before'; 0 by the template 'total and deterministic' (their statements: YthimnnnfgangbaaDoorTotals.lean).
  GIVEN WITH THE SEED: the statements are not yours to turn. If you find one false, say at which input.
  Laid BY PROGRAM, IN A SANDBOX (cutbox-rows.mjs): the forced cells as the released guide's own fill.sh prints them over the translation f103b0ac6f9f1e02… (all of the seat's roots in one cut). By AI agents, Wed Nov 11 2026. No macro, syntax, notation, axiom, sorry.
-/
import Derived.Test.YthimnnnfgangbaaDoorChecked
import GoSem.Claim
import GoSem.ClaimJoined
import GoSem.ClaimMapViews
import Derived.JoinedTies
import Derived.KernelRfl
namespace Go.Proofs.YthimnnnfgangbaaDoor
/- THE CELL 'sum', in the pinned program and in every row, IS THE sha256 OF THE DUMP (.gsa) THAT YthimnnnfgangbaaDoorProg.lean LOADS. Nothing in Lean hashes anything: it is a label: what it is worth is what the hold of that sum in a sandbox is worth. -/
noncomputable def Tryd.pinned : Pinned := { name := "ythimnnnfgangbaadoor", sum := "f103b0ac6f9f1e028ec9183a46ce5f7f9b0476a19c5c85e00bc73570c91ab56e", checked := Tryd.checked }
namespace Rows
def none {H : Type} : Left H := { results := [], args := [] }

/- WHAT THE LISTED PACKAGE-LEVEL VARIABLES READ AS WHEN THE CALL BEGINS. Each datum BY PROGRAM (the guide's laid-datum.mjs) off the statement by which the dump's own 'gosem.cut.vars' lays the variable. In a bare row this is a premise. The card (YthimnnnfgangbaaDoorCards.lean) ties it to the program's text. -/
def laid_math_bits_deBruijn32tab {H : Type} : DataW H := .agg [.lit (.int .u8 0), .lit (.int .u8 1), .lit (.int .u8 28), .lit (.int .u8 2), .lit (.int .u8 29), .lit (.int .u8 14), .lit (.int .u8 24), .lit (.int .u8 3), .lit (.int .u8 30), .lit (.int .u8 22), .lit (.int .u8 20), .lit (.int .u8 15), .lit (.int .u8 25), .lit (.int .u8 17), .lit (.int .u8 4), .lit (.int .u8 8), .lit (.int .u8 31), .lit (.int .u8 27), .lit (.int .u8 13), .lit (.int .u8 23), .lit (.int .u8 21), .lit (.int .u8 19), .lit (.int .u8 16), .lit (.int .u8 7), .lit (.int .u8 26), .lit (.int .u8 12), .lit (.int .u8 18), .lit (.int .u8 6), .lit (.int .u8 11), .lit (.int .u8 5), .lit (.int .u8 10), .lit (.int .u8 9)]
def laid_math_bits_deBruijn64tab {H : Type} : DataW H := .agg [.lit (.int .u8 0), .lit (.int .u8 1), .lit (.int .u8 56), .lit (.int .u8 2), .lit (.int .u8 57), .lit (.int .u8 49), .lit (.int .u8 28), .lit (.int .u8 3), .lit (.int .u8 61), .lit (.int .u8 58), .lit (.int .u8 42), .lit (.int .u8 50), .lit (.int .u8 38), .lit (.int .u8 29), .lit (.int .u8 17), .lit (.int .u8 4), .lit (.int .u8 62), .lit (.int .u8 47), .lit (.int .u8 59), .lit (.int .u8 36), .lit (.int .u8 45), .lit (.int .u8 43), .lit (.int .u8 51), .lit (.int .u8 22), .lit (.int .u8 53), .lit (.int .u8 39), .lit (.int .u8 33), .lit (.int .u8 30), .lit (.int .u8 24), .lit (.int .u8 18), .lit (.int .u8 12), .lit (.int .u8 5), .lit (.int .u8 63), .lit (.int .u8 55), .lit (.int .u8 48), .lit (.int .u8 27), .lit (.int .u8 60), .lit (.int .u8 41), .lit (.int .u8 37), .lit (.int .u8 16), .lit (.int .u8 46), .lit (.int .u8 35), .lit (.int .u8 44), .lit (.int .u8 21), .lit (.int .u8 52), .lit (.int .u8 32), .lit (.int .u8 23), .lit (.int .u8 11), .lit (.int .u8 54), .lit (.int .u8 26), .lit (.int .u8 40), .lit (.int .u8 15), .lit (.int .u8 34), .lit (.int .u8 20), .lit (.int .u8 31), .lit (.int .u8 10), .lit (.int .u8 25), .lit (.int .u8 14), .lit (.int .u8 19), .lit (.int .u8 9), .lit (.int .u8 13), .lit (.int .u8 8), .lit (.int .u8 7), .lit (.int .u8 6)]
def laid_internal_strconv_uint64pow10 {H : Type} : DataW H := .agg [.lit (.int .u64 1), .lit (.int .u64 10), .lit (.int .u64 100), .lit (.int .u64 1000), .lit (.int .u64 10000), .lit (.int .u64 100000), .lit (.int .u64 1000000), .lit (.int .u64 10000000), .lit (.int .u64 100000000), .lit (.int .u64 1000000000), .lit (.int .u64 10000000000), .lit (.int .u64 100000000000), .lit (.int .u64 1000000000000), .lit (.int .u64 10000000000000), .lit (.int .u64 100000000000000), .lit (.int .u64 1000000000000000), .lit (.int .u64 10000000000000000), .lit (.int .u64 100000000000000000), .lit (.int .u64 1000000000000000000), .lit (.int .u64 10000000000000000000)]

/-- 'waymarklaw30.QueryLines': WHATEVER THE INPUT: true; the input reads as it did. -/
def queryLinesSpec : ChangeSpec := { name := "queryLines", fn := fun _ => fun
  | [d1, d2] => { results := [.lit (.bool true)], args := [d1, d2] }
  | _ => none }
def queryLinesRow : OpenClaim := { program := "ythimnnnfgangbaadoor", sum := "f103b0ac6f9f1e028ec9183a46ce5f7f9b0476a19c5c85e00bc73570c91ab56e", func := "waymark/waymarklaw30.QueryLines", spec := "queryLines", inPlace := ["internal/abi.NoEscape"], recurses := true, named := ["internal/strconv.uint64pow10", "math/bits.deBruijn32tab", "math/bits.deBruijn64tab"], apart := false, laid := [("math/bits.deBruijn32tab", laid_math_bits_deBruijn32tab), ("math/bits.deBruijn64tab", laid_math_bits_deBruijn64tab), ("internal/strconv.uint64pow10", laid_internal_strconv_uint64pow10)] }
def QueryLinesSaid : Prop := queryLinesRow.holds Tryd.pinned (OpenSpec.ofChange queryLinesSpec)

/-- ITS FALSE NEIGHBOUR: 'it returns false'. Refute it at one input. -/
def queryLinesWrong : ChangeSpec := { name := "queryLines", fn := fun _ => fun
  | [d1, d2] => { results := [.lit (.bool false)], args := [d1, d2] }
  | _ => none }
def QueryLinesWrongFalsely : Prop := queryLinesRow.holds Tryd.pinned (OpenSpec.ofChange queryLinesWrong)

/-- 'waymarklaw30.QueryWires': WHATEVER THE INPUT: true; the input reads as it did. -/
def queryWiresSpec : ChangeSpec := { name := "queryWires", fn := fun _ => fun
  | [d] => { results := [.lit (.bool true)], args := [d] }
  | _ => none }
def queryWiresRow : OpenClaim := { program := "ythimnnnfgangbaadoor", sum := "f103b0ac6f9f1e028ec9183a46ce5f7f9b0476a19c5c85e00bc73570c91ab56e", func := "waymark/waymarklaw30.QueryWires", spec := "queryWires", inPlace := ["internal/abi.NoEscape"], recurses := true, named := ["internal/strconv.uint64pow10", "math/bits.deBruijn32tab", "math/bits.deBruijn64tab"], apart := false, laid := [("math/bits.deBruijn32tab", laid_math_bits_deBruijn32tab), ("math/bits.deBruijn64tab", laid_math_bits_deBruijn64tab), ("internal/strconv.uint64pow10", laid_internal_strconv_uint64pow10)] }
def QueryWiresSaid : Prop := queryWiresRow.holds Tryd.pinned (OpenSpec.ofChange queryWiresSpec)

/-- ITS FALSE NEIGHBOUR: 'it returns false'. Refute it at one input. -/
def queryWiresWrong : ChangeSpec := { name := "queryWires", fn := fun _ => fun
  | [d] => { results := [.lit (.bool false)], args := [d] }
  | _ => none }
def QueryWiresWrongFalsely : Prop := queryWiresRow.holds Tryd.pinned (OpenSpec.ofChange queryWiresWrong)

/-- 'waymarklaw30.QueryApart': WHATEVER THE INPUT: true; the input reads as it did. -/
def queryApartSpec : ChangeSpec := { name := "queryApart", fn := fun _ => fun
  | [d1, d2] => { results := [.lit (.bool true)], args := [d1, d2] }
  | _ => none }
def queryApartRow : OpenClaim := { program := "ythimnnnfgangbaadoor", sum := "f103b0ac6f9f1e028ec9183a46ce5f7f9b0476a19c5c85e00bc73570c91ab56e", func := "waymark/waymarklaw30.QueryApart", spec := "queryApart", inPlace := ["internal/abi.NoEscape"], named := ["internal/strconv.uint64pow10", "math/bits.deBruijn32tab", "math/bits.deBruijn64tab"], apart := false, laid := [("math/bits.deBruijn32tab", laid_math_bits_deBruijn32tab), ("math/bits.deBruijn64tab", laid_math_bits_deBruijn64tab), ("internal/strconv.uint64pow10", laid_internal_strconv_uint64pow10)] }
def QueryApartSaid : Prop := queryApartRow.holds Tryd.pinned (OpenSpec.ofChange queryApartSpec)

/-- ITS FALSE NEIGHBOUR: 'it returns false'. Refute it at one input. -/
def queryApartWrong : ChangeSpec := { name := "queryApart", fn := fun _ => fun
  | [d1, d2] => { results := [.lit (.bool false)], args := [d1, d2] }
  | _ => none }
def QueryApartWrongFalsely : Prop := queryApartRow.holds Tryd.pinned (OpenSpec.ofChange queryApartWrong)

/-- 'waymarklaw57.ChronTells': WHATEVER THE INPUT: true; the input reads as it did. -/
def chronTellsSpec : ChangeSpec := { name := "chronTells", fn := fun _ => fun
  | [d1, d2] => { results := [.lit (.bool true)], args := [d1, d2] }
  | _ => none }
def chronTellsRow : OpenClaim := { program := "ythimnnnfgangbaadoor", sum := "f103b0ac6f9f1e028ec9183a46ce5f7f9b0476a19c5c85e00bc73570c91ab56e", func := "waymark/waymarklaw57.ChronTells", spec := "chronTells", inPlace := ["internal/abi.NoEscape", "internal/bytealg.MakeNoZero"], unfollowed := true, recurses := true, named := ["internal/strconv.uint64pow10", "math/bits.deBruijn32tab", "math/bits.deBruijn64tab"], apart := false, laid := [("math/bits.deBruijn32tab", laid_math_bits_deBruijn32tab), ("math/bits.deBruijn64tab", laid_math_bits_deBruijn64tab), ("internal/strconv.uint64pow10", laid_internal_strconv_uint64pow10)] }
def ChronTellsSaid : Prop := chronTellsRow.holds Tryd.pinned (OpenSpec.ofChange chronTellsSpec)

/-- ITS FALSE NEIGHBOUR: 'it returns false'. Refute it at one input. -/
def chronTellsWrong : ChangeSpec := { name := "chronTells", fn := fun _ => fun
  | [d1, d2] => { results := [.lit (.bool false)], args := [d1, d2] }
  | _ => none }
def ChronTellsWrongFalsely : Prop := chronTellsRow.holds Tryd.pinned (OpenSpec.ofChange chronTellsWrong)

/-- 'waymarklaw57.ChronRooms': WHATEVER THE INPUT: true; the input reads as it did. -/
def chronRoomsSpec : ChangeSpec := { name := "chronRooms", fn := fun _ => fun
  | [d1, d2, d3] => { results := [.lit (.bool true)], args := [d1, d2, d3] }
  | _ => none }
def chronRoomsRow : OpenClaim := { program := "ythimnnnfgangbaadoor", sum := "f103b0ac6f9f1e028ec9183a46ce5f7f9b0476a19c5c85e00bc73570c91ab56e", func := "waymark/waymarklaw57.ChronRooms", spec := "chronRooms", inPlace := ["internal/abi.NoEscape", "internal/bytealg.MakeNoZero"], unfollowed := true, recurses := true, named := ["internal/strconv.uint64pow10", "math/bits.deBruijn32tab", "math/bits.deBruijn64tab"], apart := false, laid := [("math/bits.deBruijn32tab", laid_math_bits_deBruijn32tab), ("math/bits.deBruijn64tab", laid_math_bits_deBruijn64tab), ("internal/strconv.uint64pow10", laid_internal_strconv_uint64pow10)] }
def ChronRoomsSaid : Prop := chronRoomsRow.holds Tryd.pinned (OpenSpec.ofChange chronRoomsSpec)

/-- ITS FALSE NEIGHBOUR: 'it returns false'. Refute it at one input. -/
def chronRoomsWrong : ChangeSpec := { name := "chronRooms", fn := fun _ => fun
  | [d1, d2, d3] => { results := [.lit (.bool false)], args := [d1, d2, d3] }
  | _ => none }
def ChronRoomsWrongFalsely : Prop := chronRoomsRow.holds Tryd.pinned (OpenSpec.ofChange chronRoomsWrong)

/-- 'waymarklaw56.StatsCounts': WHATEVER THE INPUT: true; the input reads as it did. -/
def statsCountsSpec : ChangeSpec := { name := "statsCounts", fn := fun _ => fun
  | [d1, d2] => { results := [.lit (.bool true)], args := [d1, d2] }
  | _ => none }
def statsCountsRow : OpenClaim := { program := "ythimnnnfgangbaadoor", sum := "f103b0ac6f9f1e028ec9183a46ce5f7f9b0476a19c5c85e00bc73570c91ab56e", func := "waymark/waymarklaw56.StatsCounts", spec := "statsCounts", inPlace := ["math/bits.Add64", "internal/abi.NoEscape", "internal/bytealg.MakeNoZero"], recurses := true, named := ["internal/strconv.uint64pow10", "math/bits.deBruijn32tab", "math/bits.deBruijn64tab"], apart := false, laid := [("math/bits.deBruijn32tab", laid_math_bits_deBruijn32tab), ("math/bits.deBruijn64tab", laid_math_bits_deBruijn64tab), ("internal/strconv.uint64pow10", laid_internal_strconv_uint64pow10)] }
def StatsCountsSaid : Prop := statsCountsRow.holds Tryd.pinned (OpenSpec.ofChange statsCountsSpec)

/-- ITS FALSE NEIGHBOUR: 'it returns false'. Refute it at one input. -/
def statsCountsWrong : ChangeSpec := { name := "statsCounts", fn := fun _ => fun
  | [d1, d2] => { results := [.lit (.bool false)], args := [d1, d2] }
  | _ => none }
def StatsCountsWrongFalsely : Prop := statsCountsRow.holds Tryd.pinned (OpenSpec.ofChange statsCountsWrong)

/-- 'waymarklaw56.StatsJoins': WHATEVER THE INPUT: true; the input reads as it did. -/
def statsJoinsSpec : ChangeSpec := { name := "statsJoins", fn := fun _ => fun
  | [d1, d2, d3] => { results := [.lit (.bool true)], args := [d1, d2, d3] }
  | _ => none }
def statsJoinsRow : OpenClaim := { program := "ythimnnnfgangbaadoor", sum := "f103b0ac6f9f1e028ec9183a46ce5f7f9b0476a19c5c85e00bc73570c91ab56e", func := "waymark/waymarklaw56.StatsJoins", spec := "statsJoins", inPlace := ["math/bits.Add64", "internal/abi.NoEscape", "internal/bytealg.MakeNoZero"], recurses := true, named := ["internal/strconv.uint64pow10", "math/bits.deBruijn32tab", "math/bits.deBruijn64tab"], apart := false, laid := [("math/bits.deBruijn32tab", laid_math_bits_deBruijn32tab), ("math/bits.deBruijn64tab", laid_math_bits_deBruijn64tab), ("internal/strconv.uint64pow10", laid_internal_strconv_uint64pow10)] }
def StatsJoinsSaid : Prop := statsJoinsRow.holds Tryd.pinned (OpenSpec.ofChange statsJoinsSpec)

/-- ITS FALSE NEIGHBOUR: 'it returns false'. Refute it at one input. -/
def statsJoinsWrong : ChangeSpec := { name := "statsJoins", fn := fun _ => fun
  | [d1, d2, d3] => { results := [.lit (.bool false)], args := [d1, d2, d3] }
  | _ => none }
def StatsJoinsWrongFalsely : Prop := statsJoinsRow.holds Tryd.pinned (OpenSpec.ofChange statsJoinsWrong)

/- THE SECOND FORM. 'bulk': how many values and letters a reading holds, each counted each time it is reached (what is shared counts as often as it is met; a slice's spare places count too). A statement '..UptoSaid' is the law's where the arguments, and the package variables that the reading takes, are together of bulk at most 1048576: NARROWER than '..Said'. Prove '..Said' where nothing that the law and all that it calls make is longer than what came in: it says more and counts as full. Else prove '..UptoSaid'. A law counts once. -/
mutual
def uptoBulk {H : Type} : DataW H → Nat
  | .lit (.string bytes) => bytes.length + 1
  | .lit _ => 1
  | .nil => 1
  | .ptr d => uptoBulk d + 1
  | .slice elems spare => uptoBulkAll elems + uptoBulkAll spare + 1
  | .agg parts => uptoBulkAll parts + 1
  | .iface _ d => uptoBulk d + 1
  | .map entries => uptoBulkEntries entries + 1
  | .held _ => 1
def uptoBulkAll {H : Type} : List (DataW H) → Nat
  | [] => 0
  | d :: r => uptoBulk d + uptoBulkAll r
def uptoBulkEntries {H : Type} : List (Lit × DataW H) → Nat
  | [] => 0
  | x :: r => uptoBulkEntry x + uptoBulkEntries r
def uptoBulkEntry {H : Type} : Lit × DataW H → Nat
  | (.string bytes, d) => bytes.length + uptoBulk d + 1
  | (_, d) => uptoBulk d + 1
 end
def uptoSmall : (H : Type) → List (DataW H) → Bool := fun _ ds => decide (uptoBulkAll ds ≤ 1048576)
def OpenSpec.upto (s : _root_.Go.ChangeSpec) : _root_.Go.OpenSpec := { _root_.Go.OpenSpec.ofChange s with cond := some uptoSmall }

/-- 'waymarklaw30.QueryLines', WHERE WHAT IT READS IS OF BULK AT MOST 1048576: true; the input reads as it did. -/
def queryLinesUptoRow : OpenClaim := { program := "ythimnnnfgangbaadoor", sum := "f103b0ac6f9f1e028ec9183a46ce5f7f9b0476a19c5c85e00bc73570c91ab56e", func := "waymark/waymarklaw30.QueryLines", spec := "queryLines", inPlace := ["internal/abi.NoEscape"], recurses := true, named := ["internal/strconv.uint64pow10", "math/bits.deBruijn32tab", "math/bits.deBruijn64tab"], apart := false, laid := [("math/bits.deBruijn32tab", laid_math_bits_deBruijn32tab), ("math/bits.deBruijn64tab", laid_math_bits_deBruijn64tab), ("internal/strconv.uint64pow10", laid_internal_strconv_uint64pow10)], narrowed := true }
def QueryLinesUptoSaid : Prop := queryLinesUptoRow.holds Tryd.pinned (OpenSpec.upto queryLinesSpec)

/-- 'waymarklaw30.QueryWires', WHERE WHAT IT READS IS OF BULK AT MOST 1048576: true; the input reads as it did. -/
def queryWiresUptoRow : OpenClaim := { program := "ythimnnnfgangbaadoor", sum := "f103b0ac6f9f1e028ec9183a46ce5f7f9b0476a19c5c85e00bc73570c91ab56e", func := "waymark/waymarklaw30.QueryWires", spec := "queryWires", inPlace := ["internal/abi.NoEscape"], recurses := true, named := ["internal/strconv.uint64pow10", "math/bits.deBruijn32tab", "math/bits.deBruijn64tab"], apart := false, laid := [("math/bits.deBruijn32tab", laid_math_bits_deBruijn32tab), ("math/bits.deBruijn64tab", laid_math_bits_deBruijn64tab), ("internal/strconv.uint64pow10", laid_internal_strconv_uint64pow10)], narrowed := true }
def QueryWiresUptoSaid : Prop := queryWiresUptoRow.holds Tryd.pinned (OpenSpec.upto queryWiresSpec)

/-- 'waymarklaw30.QueryApart', WHERE WHAT IT READS IS OF BULK AT MOST 1048576: true; the input reads as it did. -/
def queryApartUptoRow : OpenClaim := { program := "ythimnnnfgangbaadoor", sum := "f103b0ac6f9f1e028ec9183a46ce5f7f9b0476a19c5c85e00bc73570c91ab56e", func := "waymark/waymarklaw30.QueryApart", spec := "queryApart", inPlace := ["internal/abi.NoEscape"], named := ["internal/strconv.uint64pow10", "math/bits.deBruijn32tab", "math/bits.deBruijn64tab"], apart := false, laid := [("math/bits.deBruijn32tab", laid_math_bits_deBruijn32tab), ("math/bits.deBruijn64tab", laid_math_bits_deBruijn64tab), ("internal/strconv.uint64pow10", laid_internal_strconv_uint64pow10)], narrowed := true }
def QueryApartUptoSaid : Prop := queryApartUptoRow.holds Tryd.pinned (OpenSpec.upto queryApartSpec)

/-- 'waymarklaw57.ChronTells', WHERE WHAT IT READS IS OF BULK AT MOST 1048576: true; the input reads as it did. -/
def chronTellsUptoRow : OpenClaim := { program := "ythimnnnfgangbaadoor", sum := "f103b0ac6f9f1e028ec9183a46ce5f7f9b0476a19c5c85e00bc73570c91ab56e", func := "waymark/waymarklaw57.ChronTells", spec := "chronTells", inPlace := ["internal/abi.NoEscape", "internal/bytealg.MakeNoZero"], unfollowed := true, recurses := true, named := ["internal/strconv.uint64pow10", "math/bits.deBruijn32tab", "math/bits.deBruijn64tab"], apart := false, laid := [("math/bits.deBruijn32tab", laid_math_bits_deBruijn32tab), ("math/bits.deBruijn64tab", laid_math_bits_deBruijn64tab), ("internal/strconv.uint64pow10", laid_internal_strconv_uint64pow10)], narrowed := true }
def ChronTellsUptoSaid : Prop := chronTellsUptoRow.holds Tryd.pinned (OpenSpec.upto chronTellsSpec)

/-- 'waymarklaw57.ChronRooms', WHERE WHAT IT READS IS OF BULK AT MOST 1048576: true; the input reads as it did. -/
def chronRoomsUptoRow : OpenClaim := { program := "ythimnnnfgangbaadoor", sum := "f103b0ac6f9f1e028ec9183a46ce5f7f9b0476a19c5c85e00bc73570c91ab56e", func := "waymark/waymarklaw57.ChronRooms", spec := "chronRooms", inPlace := ["internal/abi.NoEscape", "internal/bytealg.MakeNoZero"], unfollowed := true, recurses := true, named := ["internal/strconv.uint64pow10", "math/bits.deBruijn32tab", "math/bits.deBruijn64tab"], apart := false, laid := [("math/bits.deBruijn32tab", laid_math_bits_deBruijn32tab), ("math/bits.deBruijn64tab", laid_math_bits_deBruijn64tab), ("internal/strconv.uint64pow10", laid_internal_strconv_uint64pow10)], narrowed := true }
def ChronRoomsUptoSaid : Prop := chronRoomsUptoRow.holds Tryd.pinned (OpenSpec.upto chronRoomsSpec)

/-- 'waymarklaw56.StatsCounts', WHERE WHAT IT READS IS OF BULK AT MOST 1048576: true; the input reads as it did. -/
def statsCountsUptoRow : OpenClaim := { program := "ythimnnnfgangbaadoor", sum := "f103b0ac6f9f1e028ec9183a46ce5f7f9b0476a19c5c85e00bc73570c91ab56e", func := "waymark/waymarklaw56.StatsCounts", spec := "statsCounts", inPlace := ["math/bits.Add64", "internal/abi.NoEscape", "internal/bytealg.MakeNoZero"], recurses := true, named := ["internal/strconv.uint64pow10", "math/bits.deBruijn32tab", "math/bits.deBruijn64tab"], apart := false, laid := [("math/bits.deBruijn32tab", laid_math_bits_deBruijn32tab), ("math/bits.deBruijn64tab", laid_math_bits_deBruijn64tab), ("internal/strconv.uint64pow10", laid_internal_strconv_uint64pow10)], narrowed := true }
def StatsCountsUptoSaid : Prop := statsCountsUptoRow.holds Tryd.pinned (OpenSpec.upto statsCountsSpec)

/-- 'waymarklaw56.StatsJoins', WHERE WHAT IT READS IS OF BULK AT MOST 1048576: true; the input reads as it did. -/
def statsJoinsUptoRow : OpenClaim := { program := "ythimnnnfgangbaadoor", sum := "f103b0ac6f9f1e028ec9183a46ce5f7f9b0476a19c5c85e00bc73570c91ab56e", func := "waymark/waymarklaw56.StatsJoins", spec := "statsJoins", inPlace := ["math/bits.Add64", "internal/abi.NoEscape", "internal/bytealg.MakeNoZero"], recurses := true, named := ["internal/strconv.uint64pow10", "math/bits.deBruijn32tab", "math/bits.deBruijn64tab"], apart := false, laid := [("math/bits.deBruijn32tab", laid_math_bits_deBruijn32tab), ("math/bits.deBruijn64tab", laid_math_bits_deBruijn64tab), ("internal/strconv.uint64pow10", laid_internal_strconv_uint64pow10)], narrowed := true }
def StatsJoinsUptoSaid : Prop := statsJoinsUptoRow.holds Tryd.pinned (OpenSpec.upto statsJoinsSpec)

end Rows
end Go.Proofs.YthimnnnfgangbaaDoor
