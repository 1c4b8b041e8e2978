/-
  No cell of these rows narrows 'for every input' (looked for: loops, veiled, ifaces, maps, wideKeys, modest, calm, conditions, laid).
  DERIVED. THE GIVEN ROWS OF THIS SEAT. 12 by the template 'for every input the law returns true; each argument reads behind the call as it read before'; 0 by the template 'total and deterministic' (their statements: YtdkobokdeofiiaaTotals.lean).
  GIVEN WITH THE SEED: the statements are not yours to turn. If you find one false, say at which input.
  Laid BY PROGRAM, IN A SANDBOX (cutbox-rows.mjs): the forced cells as the released guide's own fill.sh prints them over the translation f43b66d8957eb899… (all of the seat's roots in one cut). By AI agents, Wed Nov 11 2026. No macro, syntax, notation, axiom, sorry.
-/
import Derived.Test.YtdkobokdeofiiaaChecked
import GoSem.Claim
import GoSem.ClaimJoined
import GoSem.ClaimMapViews
import Derived.JoinedTies
import Derived.KernelRfl
namespace Go.Proofs.Ytdkobokdeofiiaa
/- THE CELL 'sum', in the pinned program and in every row, IS THE sha256 OF THE DUMP (.gsa) THAT YtdkobokdeofiiaaProg.lean LOADS. Nothing in Lean hashes anything: it is a label: what it is worth is what the hold of that sum in a sandbox is worth. -/
noncomputable def Try.pinned : Pinned := { name := "ytdkobokdeofiiaa", sum := "f43b66d8957eb8994373d27233587857d2a7f8f1a850964fba3db53c4f4ad131", checked := Try.checked }
namespace Rows
def none {H : Type} : Left H := { results := [], args := [] }

/-- 'waymarklaw22.CostSums': WHATEVER THE INPUT: true; the input reads as it did. -/
def costSumsSpec : ChangeSpec := { name := "costSums", fn := fun _ => fun
  | [d1, d2] => { results := [.lit (.bool true)], args := [d1, d2] }
  | _ => none }
def costSumsRow : OpenClaim := { program := "ytdkobokdeofiiaa", sum := "f43b66d8957eb8994373d27233587857d2a7f8f1a850964fba3db53c4f4ad131", func := "waymark/waymarklaw22.CostSums", spec := "costSums", apart := false }
def CostSumsSaid : Prop := costSumsRow.holds Try.pinned (OpenSpec.ofChange costSumsSpec)

/-- ITS FALSE NEIGHBOUR: 'it returns false'. Refute it at one input. -/
def costSumsWrong : ChangeSpec := { name := "costSums", fn := fun _ => fun
  | [d1, d2] => { results := [.lit (.bool false)], args := [d1, d2] }
  | _ => none }
def CostSumsWrongFalsely : Prop := costSumsRow.holds Try.pinned (OpenSpec.ofChange costSumsWrong)

/-- 'waymarklaw22.CostAdds': WHATEVER THE INPUT: true; the input reads as it did. -/
def costAddsSpec : ChangeSpec := { name := "costAdds", fn := fun _ => fun
  | [d1, d2, d3] => { results := [.lit (.bool true)], args := [d1, d2, d3] }
  | _ => none }
def costAddsRow : OpenClaim := { program := "ytdkobokdeofiiaa", sum := "f43b66d8957eb8994373d27233587857d2a7f8f1a850964fba3db53c4f4ad131", func := "waymark/waymarklaw22.CostAdds", spec := "costAdds", apart := false }
def CostAddsSaid : Prop := costAddsRow.holds Try.pinned (OpenSpec.ofChange costAddsSpec)

/-- ITS FALSE NEIGHBOUR: 'it returns false'. Refute it at one input. -/
def costAddsWrong : ChangeSpec := { name := "costAdds", fn := fun _ => fun
  | [d1, d2, d3] => { results := [.lit (.bool false)], args := [d1, d2, d3] }
  | _ => none }
def CostAddsWrongFalsely : Prop := costAddsRow.holds Try.pinned (OpenSpec.ofChange costAddsWrong)

/-- 'waymarklaw54.DampTurns': WHATEVER THE INPUT: true; the input reads as it did. -/
def dampTurnsSpec : ChangeSpec := { name := "dampTurns", fn := fun _ => fun
  | [d1, d2] => { results := [.lit (.bool true)], args := [d1, d2] }
  | _ => none }
def dampTurnsRow : OpenClaim := { program := "ytdkobokdeofiiaa", sum := "f43b66d8957eb8994373d27233587857d2a7f8f1a850964fba3db53c4f4ad131", func := "waymark/waymarklaw54.DampTurns", spec := "dampTurns", apart := false }
def DampTurnsSaid : Prop := dampTurnsRow.holds Try.pinned (OpenSpec.ofChange dampTurnsSpec)

/-- ITS FALSE NEIGHBOUR: 'it returns false'. Refute it at one input. -/
def dampTurnsWrong : ChangeSpec := { name := "dampTurns", fn := fun _ => fun
  | [d1, d2] => { results := [.lit (.bool false)], args := [d1, d2] }
  | _ => none }
def DampTurnsWrongFalsely : Prop := dampTurnsRow.holds Try.pinned (OpenSpec.ofChange dampTurnsWrong)

/-- 'waymarklaw54.DampWaits': WHATEVER THE INPUT: true; the input reads as it did. -/
def dampWaitsSpec : ChangeSpec := { name := "dampWaits", fn := fun _ => fun
  | [d1, d2] => { results := [.lit (.bool true)], args := [d1, d2] }
  | _ => none }
def dampWaitsRow : OpenClaim := { program := "ytdkobokdeofiiaa", sum := "f43b66d8957eb8994373d27233587857d2a7f8f1a850964fba3db53c4f4ad131", func := "waymark/waymarklaw54.DampWaits", spec := "dampWaits", apart := false }
def DampWaitsSaid : Prop := dampWaitsRow.holds Try.pinned (OpenSpec.ofChange dampWaitsSpec)

/-- ITS FALSE NEIGHBOUR: 'it returns false'. Refute it at one input. -/
def dampWaitsWrong : ChangeSpec := { name := "dampWaits", fn := fun _ => fun
  | [d1, d2] => { results := [.lit (.bool false)], args := [d1, d2] }
  | _ => none }
def DampWaitsWrongFalsely : Prop := dampWaitsRow.holds Try.pinned (OpenSpec.ofChange dampWaitsWrong)

/-- 'waymarklaw54.DampParts': WHATEVER THE INPUT: true; the input reads as it did. -/
def dampPartsSpec : ChangeSpec := { name := "dampParts", fn := fun _ => fun
  | [d1, d2, d3] => { results := [.lit (.bool true)], args := [d1, d2, d3] }
  | _ => none }
def dampPartsRow : OpenClaim := { program := "ytdkobokdeofiiaa", sum := "f43b66d8957eb8994373d27233587857d2a7f8f1a850964fba3db53c4f4ad131", func := "waymark/waymarklaw54.DampParts", spec := "dampParts", apart := false }
def DampPartsSaid : Prop := dampPartsRow.holds Try.pinned (OpenSpec.ofChange dampPartsSpec)

/-- ITS FALSE NEIGHBOUR: 'it returns false'. Refute it at one input. -/
def dampPartsWrong : ChangeSpec := { name := "dampParts", fn := fun _ => fun
  | [d1, d2, d3] => { results := [.lit (.bool false)], args := [d1, d2, d3] }
  | _ => none }
def DampPartsWrongFalsely : Prop := dampPartsRow.holds Try.pinned (OpenSpec.ofChange dampPartsWrong)

/-- 'waymarklaw55.ElectTwo': WHATEVER THE INPUT: true; the input reads as it did. -/
def electTwoSpec : ChangeSpec := { name := "electTwo", fn := fun _ => fun
  | [d] => { results := [.lit (.bool true)], args := [d] }
  | _ => none }
def electTwoRow : OpenClaim := { program := "ytdkobokdeofiiaa", sum := "f43b66d8957eb8994373d27233587857d2a7f8f1a850964fba3db53c4f4ad131", func := "waymark/waymarklaw55.ElectTwo", spec := "electTwo", unfollowed := true, recurses := true, apart := false }
def ElectTwoSaid : Prop := electTwoRow.holds Try.pinned (OpenSpec.ofChange electTwoSpec)

/-- ITS FALSE NEIGHBOUR: 'it returns false'. Refute it at one input. -/
def electTwoWrong : ChangeSpec := { name := "electTwo", fn := fun _ => fun
  | [d] => { results := [.lit (.bool false)], args := [d] }
  | _ => none }
def ElectTwoWrongFalsely : Prop := electTwoRow.holds Try.pinned (OpenSpec.ofChange electTwoWrong)

/-- 'waymarklaw23.HeapActs': WHATEVER THE INPUT: true; the input reads as it did. -/
def heapActsSpec : ChangeSpec := { name := "heapActs", fn := fun _ => fun
  | [d1, d2] => { results := [.lit (.bool true)], args := [d1, d2] }
  | _ => none }
def heapActsRow : OpenClaim := { program := "ytdkobokdeofiiaa", sum := "f43b66d8957eb8994373d27233587857d2a7f8f1a850964fba3db53c4f4ad131", func := "waymark/waymarklaw23.HeapActs", spec := "heapActs", apart := false }
def HeapActsSaid : Prop := heapActsRow.holds Try.pinned (OpenSpec.ofChange heapActsSpec)

/-- ITS FALSE NEIGHBOUR: 'it returns false'. Refute it at one input. -/
def heapActsWrong : ChangeSpec := { name := "heapActs", fn := fun _ => fun
  | [d1, d2] => { results := [.lit (.bool false)], args := [d1, d2] }
  | _ => none }
def HeapActsWrongFalsely : Prop := heapActsRow.holds Try.pinned (OpenSpec.ofChange heapActsWrong)

/-- 'waymarklaw23.HeapSorts': WHATEVER THE INPUT: true; the input reads as it did. -/
def heapSortsSpec : ChangeSpec := { name := "heapSorts", fn := fun _ => fun
  | [d] => { results := [.lit (.bool true)], args := [d] }
  | _ => none }
def heapSortsRow : OpenClaim := { program := "ytdkobokdeofiiaa", sum := "f43b66d8957eb8994373d27233587857d2a7f8f1a850964fba3db53c4f4ad131", func := "waymark/waymarklaw23.HeapSorts", spec := "heapSorts", apart := false }
def HeapSortsSaid : Prop := heapSortsRow.holds Try.pinned (OpenSpec.ofChange heapSortsSpec)

/-- ITS FALSE NEIGHBOUR: 'it returns false'. Refute it at one input. -/
def heapSortsWrong : ChangeSpec := { name := "heapSorts", fn := fun _ => fun
  | [d] => { results := [.lit (.bool false)], args := [d] }
  | _ => none }
def HeapSortsWrongFalsely : Prop := heapSortsRow.holds Try.pinned (OpenSpec.ofChange heapSortsWrong)

/-- 'waymarklaw55.ElectChooses': WHATEVER THE INPUT: true; the input reads as it did. -/
def electChoosesSpec : ChangeSpec := { name := "electChooses", fn := fun _ => fun
  | [d] => { results := [.lit (.bool true)], args := [d] }
  | _ => none }
def electChoosesRow : OpenClaim := { program := "ytdkobokdeofiiaa", sum := "f43b66d8957eb8994373d27233587857d2a7f8f1a850964fba3db53c4f4ad131", func := "waymark/waymarklaw55.ElectChooses", spec := "electChooses", unfollowed := true, recurses := true, apart := false }
def ElectChoosesSaid : Prop := electChoosesRow.holds Try.pinned (OpenSpec.ofChange electChoosesSpec)

/-- ITS FALSE NEIGHBOUR: 'it returns false'. Refute it at one input. -/
def electChoosesWrong : ChangeSpec := { name := "electChooses", fn := fun _ => fun
  | [d] => { results := [.lit (.bool false)], args := [d] }
  | _ => none }
def ElectChoosesWrongFalsely : Prop := electChoosesRow.holds Try.pinned (OpenSpec.ofChange electChoosesWrong)

/-- 'waymarklaw55.ElectStays': WHATEVER THE INPUT: true; the input reads as it did. -/
def electStaysSpec : ChangeSpec := { name := "electStays", fn := fun _ => fun
  | [d] => { results := [.lit (.bool true)], args := [d] }
  | _ => none }
def electStaysRow : OpenClaim := { program := "ytdkobokdeofiiaa", sum := "f43b66d8957eb8994373d27233587857d2a7f8f1a850964fba3db53c4f4ad131", func := "waymark/waymarklaw55.ElectStays", spec := "electStays", unfollowed := true, recurses := true, apart := false }
def ElectStaysSaid : Prop := electStaysRow.holds Try.pinned (OpenSpec.ofChange electStaysSpec)

/-- ITS FALSE NEIGHBOUR: 'it returns false'. Refute it at one input. -/
def electStaysWrong : ChangeSpec := { name := "electStays", fn := fun _ => fun
  | [d] => { results := [.lit (.bool false)], args := [d] }
  | _ => none }
def ElectStaysWrongFalsely : Prop := electStaysRow.holds Try.pinned (OpenSpec.ofChange electStaysWrong)

/-- 'waymarklaw15.QueueActs': WHATEVER THE INPUT: true; the input reads as it did. -/
def queueActsSpec : ChangeSpec := { name := "queueActs", fn := fun _ => fun
  | [d] => { results := [.lit (.bool true)], args := [d] }
  | _ => none }
def queueActsRow : OpenClaim := { program := "ytdkobokdeofiiaa", sum := "f43b66d8957eb8994373d27233587857d2a7f8f1a850964fba3db53c4f4ad131", func := "waymark/waymarklaw15.QueueActs", spec := "queueActs", apart := false }
def QueueActsSaid : Prop := queueActsRow.holds Try.pinned (OpenSpec.ofChange queueActsSpec)

/-- ITS FALSE NEIGHBOUR: 'it returns false'. Refute it at one input. -/
def queueActsWrong : ChangeSpec := { name := "queueActs", fn := fun _ => fun
  | [d] => { results := [.lit (.bool false)], args := [d] }
  | _ => none }
def QueueActsWrongFalsely : Prop := queueActsRow.holds Try.pinned (OpenSpec.ofChange queueActsWrong)

/-- 'waymarklaw15.QueueNobody': WHATEVER THE INPUT: true; the input reads as it did. -/
def queueNobodySpec : ChangeSpec := { name := "queueNobody", fn := fun _ => fun
  | [d1, d2] => { results := [.lit (.bool true)], args := [d1, d2] }
  | _ => none }
def queueNobodyRow : OpenClaim := { program := "ytdkobokdeofiiaa", sum := "f43b66d8957eb8994373d27233587857d2a7f8f1a850964fba3db53c4f4ad131", func := "waymark/waymarklaw15.QueueNobody", spec := "queueNobody", apart := false }
def QueueNobodySaid : Prop := queueNobodyRow.holds Try.pinned (OpenSpec.ofChange queueNobodySpec)

/-- ITS FALSE NEIGHBOUR: 'it returns false'. Refute it at one input. -/
def queueNobodyWrong : ChangeSpec := { name := "queueNobody", fn := fun _ => fun
  | [d1, d2] => { results := [.lit (.bool false)], args := [d1, d2] }
  | _ => none }
def QueueNobodyWrongFalsely : Prop := queueNobodyRow.holds Try.pinned (OpenSpec.ofChange queueNobodyWrong)

/- THE SECOND FORM. 'bulk': how many values and letters a reading holds, each counted each time it is reached (what is shared counts as often as it is met; a slice's spare places count too). A statement '..UptoSaid' is the law's where the arguments, and the package variables that the reading takes, are together of bulk at most 1048576: NARROWER than '..Said'. Prove '..Said' where nothing that the law and all that it calls make is longer than what came in: it says more and counts as full. Else prove '..UptoSaid'. A law counts once. -/
mutual
def uptoBulk {H : Type} : DataW H → Nat
  | .lit (.string bytes) => bytes.length + 1
  | .lit _ => 1
  | .nil => 1
  | .ptr d => uptoBulk d + 1
  | .slice elems spare => uptoBulkAll elems + uptoBulkAll spare + 1
  | .agg parts => uptoBulkAll parts + 1
  | .iface _ d => uptoBulk d + 1
  | .map entries => uptoBulkEntries entries + 1
  | .held _ => 1
def uptoBulkAll {H : Type} : List (DataW H) → Nat
  | [] => 0
  | d :: r => uptoBulk d + uptoBulkAll r
def uptoBulkEntries {H : Type} : List (Lit × DataW H) → Nat
  | [] => 0
  | x :: r => uptoBulkEntry x + uptoBulkEntries r
def uptoBulkEntry {H : Type} : Lit × DataW H → Nat
  | (.string bytes, d) => bytes.length + uptoBulk d + 1
  | (_, d) => uptoBulk d + 1
 end
def uptoSmall : (H : Type) → List (DataW H) → Bool := fun _ ds => decide (uptoBulkAll ds ≤ 1048576)
def OpenSpec.upto (s : _root_.Go.ChangeSpec) : _root_.Go.OpenSpec := { _root_.Go.OpenSpec.ofChange s with cond := some uptoSmall }

/-- 'waymarklaw22.CostSums', WHERE WHAT IT READS IS OF BULK AT MOST 1048576: true; the input reads as it did. -/
def costSumsUptoRow : OpenClaim := { program := "ytdkobokdeofiiaa", sum := "f43b66d8957eb8994373d27233587857d2a7f8f1a850964fba3db53c4f4ad131", func := "waymark/waymarklaw22.CostSums", spec := "costSums", apart := false, narrowed := true }
def CostSumsUptoSaid : Prop := costSumsUptoRow.holds Try.pinned (OpenSpec.upto costSumsSpec)

/-- 'waymarklaw22.CostAdds', WHERE WHAT IT READS IS OF BULK AT MOST 1048576: true; the input reads as it did. -/
def costAddsUptoRow : OpenClaim := { program := "ytdkobokdeofiiaa", sum := "f43b66d8957eb8994373d27233587857d2a7f8f1a850964fba3db53c4f4ad131", func := "waymark/waymarklaw22.CostAdds", spec := "costAdds", apart := false, narrowed := true }
def CostAddsUptoSaid : Prop := costAddsUptoRow.holds Try.pinned (OpenSpec.upto costAddsSpec)

/-- 'waymarklaw54.DampTurns', WHERE WHAT IT READS IS OF BULK AT MOST 1048576: true; the input reads as it did. -/
def dampTurnsUptoRow : OpenClaim := { program := "ytdkobokdeofiiaa", sum := "f43b66d8957eb8994373d27233587857d2a7f8f1a850964fba3db53c4f4ad131", func := "waymark/waymarklaw54.DampTurns", spec := "dampTurns", apart := false, narrowed := true }
def DampTurnsUptoSaid : Prop := dampTurnsUptoRow.holds Try.pinned (OpenSpec.upto dampTurnsSpec)

/-- 'waymarklaw54.DampWaits', WHERE WHAT IT READS IS OF BULK AT MOST 1048576: true; the input reads as it did. -/
def dampWaitsUptoRow : OpenClaim := { program := "ytdkobokdeofiiaa", sum := "f43b66d8957eb8994373d27233587857d2a7f8f1a850964fba3db53c4f4ad131", func := "waymark/waymarklaw54.DampWaits", spec := "dampWaits", apart := false, narrowed := true }
def DampWaitsUptoSaid : Prop := dampWaitsUptoRow.holds Try.pinned (OpenSpec.upto dampWaitsSpec)

/-- 'waymarklaw54.DampParts', WHERE WHAT IT READS IS OF BULK AT MOST 1048576: true; the input reads as it did. -/
def dampPartsUptoRow : OpenClaim := { program := "ytdkobokdeofiiaa", sum := "f43b66d8957eb8994373d27233587857d2a7f8f1a850964fba3db53c4f4ad131", func := "waymark/waymarklaw54.DampParts", spec := "dampParts", apart := false, narrowed := true }
def DampPartsUptoSaid : Prop := dampPartsUptoRow.holds Try.pinned (OpenSpec.upto dampPartsSpec)

/-- 'waymarklaw55.ElectTwo', WHERE WHAT IT READS IS OF BULK AT MOST 1048576: true; the input reads as it did. -/
def electTwoUptoRow : OpenClaim := { program := "ytdkobokdeofiiaa", sum := "f43b66d8957eb8994373d27233587857d2a7f8f1a850964fba3db53c4f4ad131", func := "waymark/waymarklaw55.ElectTwo", spec := "electTwo", unfollowed := true, recurses := true, apart := false, narrowed := true }
def ElectTwoUptoSaid : Prop := electTwoUptoRow.holds Try.pinned (OpenSpec.upto electTwoSpec)

/-- 'waymarklaw23.HeapActs', WHERE WHAT IT READS IS OF BULK AT MOST 1048576: true; the input reads as it did. -/
def heapActsUptoRow : OpenClaim := { program := "ytdkobokdeofiiaa", sum := "f43b66d8957eb8994373d27233587857d2a7f8f1a850964fba3db53c4f4ad131", func := "waymark/waymarklaw23.HeapActs", spec := "heapActs", apart := false, narrowed := true }
def HeapActsUptoSaid : Prop := heapActsUptoRow.holds Try.pinned (OpenSpec.upto heapActsSpec)

/-- 'waymarklaw23.HeapSorts', WHERE WHAT IT READS IS OF BULK AT MOST 1048576: true; the input reads as it did. -/
def heapSortsUptoRow : OpenClaim := { program := "ytdkobokdeofiiaa", sum := "f43b66d8957eb8994373d27233587857d2a7f8f1a850964fba3db53c4f4ad131", func := "waymark/waymarklaw23.HeapSorts", spec := "heapSorts", apart := false, narrowed := true }
def HeapSortsUptoSaid : Prop := heapSortsUptoRow.holds Try.pinned (OpenSpec.upto heapSortsSpec)

/-- 'waymarklaw55.ElectChooses', WHERE WHAT IT READS IS OF BULK AT MOST 1048576: true; the input reads as it did. -/
def electChoosesUptoRow : OpenClaim := { program := "ytdkobokdeofiiaa", sum := "f43b66d8957eb8994373d27233587857d2a7f8f1a850964fba3db53c4f4ad131", func := "waymark/waymarklaw55.ElectChooses", spec := "electChooses", unfollowed := true, recurses := true, apart := false, narrowed := true }
def ElectChoosesUptoSaid : Prop := electChoosesUptoRow.holds Try.pinned (OpenSpec.upto electChoosesSpec)

/-- 'waymarklaw55.ElectStays', WHERE WHAT IT READS IS OF BULK AT MOST 1048576: true; the input reads as it did. -/
def electStaysUptoRow : OpenClaim := { program := "ytdkobokdeofiiaa", sum := "f43b66d8957eb8994373d27233587857d2a7f8f1a850964fba3db53c4f4ad131", func := "waymark/waymarklaw55.ElectStays", spec := "electStays", unfollowed := true, recurses := true, apart := false, narrowed := true }
def ElectStaysUptoSaid : Prop := electStaysUptoRow.holds Try.pinned (OpenSpec.upto electStaysSpec)

/-- 'waymarklaw15.QueueActs', WHERE WHAT IT READS IS OF BULK AT MOST 1048576: true; the input reads as it did. -/
def queueActsUptoRow : OpenClaim := { program := "ytdkobokdeofiiaa", sum := "f43b66d8957eb8994373d27233587857d2a7f8f1a850964fba3db53c4f4ad131", func := "waymark/waymarklaw15.QueueActs", spec := "queueActs", apart := false, narrowed := true }
def QueueActsUptoSaid : Prop := queueActsUptoRow.holds Try.pinned (OpenSpec.upto queueActsSpec)

/-- 'waymarklaw15.QueueNobody', WHERE WHAT IT READS IS OF BULK AT MOST 1048576: true; the input reads as it did. -/
def queueNobodyUptoRow : OpenClaim := { program := "ytdkobokdeofiiaa", sum := "f43b66d8957eb8994373d27233587857d2a7f8f1a850964fba3db53c4f4ad131", func := "waymark/waymarklaw15.QueueNobody", spec := "queueNobody", apart := false, narrowed := true }
def QueueNobodyUptoSaid : Prop := queueNobodyUptoRow.holds Try.pinned (OpenSpec.upto queueNobodySpec)

end Rows
end Go.Proofs.Ytdkobokdeofiiaa
