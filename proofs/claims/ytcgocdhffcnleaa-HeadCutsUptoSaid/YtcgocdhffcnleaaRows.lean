/-
  No cell of these rows narrows 'for every input' (looked for: loops, veiled, ifaces, maps, wideKeys, modest, calm, conditions, laid).
  DERIVED. THE GIVEN ROWS OF THIS SEAT. 9 by the template 'for every input the law returns true; each argument reads behind the call as it read before'; 0 by the template 'total and deterministic' (their statements: YtcgocdhffcnleaaTotals.lean).
  GIVEN WITH THE SEED: the statements are not yours to turn. If you find one false, say at which input.
  Laid BY PROGRAM, IN A SANDBOX (cutbox-rows.mjs): the forced cells as the released guide's own fill.sh prints them over the translation c12667875211549d… (all of the seat's roots in one cut). By AI agents, Wed Nov 11 2026. No macro, syntax, notation, axiom, sorry.
-/
import Derived.Test.YtcgocdhffcnleaaChecked
import GoSem.Claim
import GoSem.ClaimJoined
import GoSem.ClaimMapViews
import Derived.JoinedTies
import Derived.KernelRfl
namespace Go.Proofs.Ytcgocdhffcnleaa
/- THE CELL 'sum', in the pinned program and in every row, IS THE sha256 OF THE DUMP (.gsa) THAT YtcgocdhffcnleaaProg.lean LOADS. Nothing in Lean hashes anything: it is a label: what it is worth is what the hold of that sum in a sandbox is worth. -/
noncomputable def Try.pinned : Pinned := { name := "ytcgocdhffcnleaa", sum := "c12667875211549dad055c1804657959fd0abe4c640555c0f9ee863dce56b91c", checked := Try.checked }
namespace Rows
def none {H : Type} : Left H := { results := [], args := [] }

/-- 'lysimeterlaw15.IndexFinds': WHATEVER THE INPUT: true; the input reads as it did. -/
def indexFindsSpec : ChangeSpec := { name := "indexFinds", fn := fun _ => fun
  | [d1, d2] => { results := [.lit (.bool true)], args := [d1, d2] }
  | _ => none }
def indexFindsRow : OpenClaim := { program := "ytcgocdhffcnleaa", sum := "c12667875211549dad055c1804657959fd0abe4c640555c0f9ee863dce56b91c", func := "lysimeter/lysimeterlaw15.IndexFinds", spec := "indexFinds", inPlace := ["internal/abi.NoEscape"], unfollowed := true, recurses := true, plainKeys := false, apart := false }
def IndexFindsSaid : Prop := indexFindsRow.holds Try.pinned (OpenSpec.ofChange indexFindsSpec)

/-- ITS FALSE NEIGHBOUR: 'it returns false'. Refute it at one input. -/
def indexFindsWrong : ChangeSpec := { name := "indexFinds", fn := fun _ => fun
  | [d1, d2] => { results := [.lit (.bool false)], args := [d1, d2] }
  | _ => none }
def IndexFindsWrongFalsely : Prop := indexFindsRow.holds Try.pinned (OpenSpec.ofChange indexFindsWrong)

/-- 'lysimeterlaw13.HeadWindow': WHATEVER THE INPUT: true; the input reads as it did. -/
def headWindowSpec : ChangeSpec := { name := "headWindow", fn := fun _ => fun
  | [d1, d2, d3] => { results := [.lit (.bool true)], args := [d1, d2, d3] }
  | _ => none }
def headWindowRow : OpenClaim := { program := "ytcgocdhffcnleaa", sum := "c12667875211549dad055c1804657959fd0abe4c640555c0f9ee863dce56b91c", func := "lysimeter/lysimeterlaw13.HeadWindow", spec := "headWindow", inPlace := ["internal/abi.NoEscape", "slices.overlaps[lysimeter/api.Sample]"], unfollowed := true, recurses := true, plainKeys := false, apart := false }
def HeadWindowSaid : Prop := headWindowRow.holds Try.pinned (OpenSpec.ofChange headWindowSpec)

/-- ITS FALSE NEIGHBOUR: 'it returns false'. Refute it at one input. -/
def headWindowWrong : ChangeSpec := { name := "headWindow", fn := fun _ => fun
  | [d1, d2, d3] => { results := [.lit (.bool false)], args := [d1, d2, d3] }
  | _ => none }
def HeadWindowWrongFalsely : Prop := headWindowRow.holds Try.pinned (OpenSpec.ofChange headWindowWrong)

/-- 'lysimeterlaw13.HeadLast': WHATEVER THE INPUT: true; the input reads as it did. -/
def headLastSpec : ChangeSpec := { name := "headLast", fn := fun _ => fun
  | [d1, d2] => { results := [.lit (.bool true)], args := [d1, d2] }
  | _ => none }
def headLastRow : OpenClaim := { program := "ytcgocdhffcnleaa", sum := "c12667875211549dad055c1804657959fd0abe4c640555c0f9ee863dce56b91c", func := "lysimeter/lysimeterlaw13.HeadLast", spec := "headLast", inPlace := ["internal/abi.NoEscape", "slices.overlaps[lysimeter/api.Sample]"], unfollowed := true, recurses := true, plainKeys := false, apart := false }
def HeadLastSaid : Prop := headLastRow.holds Try.pinned (OpenSpec.ofChange headLastSpec)

/-- ITS FALSE NEIGHBOUR: 'it returns false'. Refute it at one input. -/
def headLastWrong : ChangeSpec := { name := "headLast", fn := fun _ => fun
  | [d1, d2] => { results := [.lit (.bool false)], args := [d1, d2] }
  | _ => none }
def HeadLastWrongFalsely : Prop := headLastRow.holds Try.pinned (OpenSpec.ofChange headLastWrong)

/-- 'lysimeterlaw15.IndexMakes': WHATEVER THE INPUT: true; the input reads as it did. -/
def indexMakesSpec : ChangeSpec := { name := "indexMakes", fn := fun _ => fun
  | [d] => { results := [.lit (.bool true)], args := [d] }
  | _ => none }
def indexMakesRow : OpenClaim := { program := "ytcgocdhffcnleaa", sum := "c12667875211549dad055c1804657959fd0abe4c640555c0f9ee863dce56b91c", func := "lysimeter/lysimeterlaw15.IndexMakes", spec := "indexMakes", inPlace := ["internal/abi.NoEscape"], unfollowed := true, recurses := true, plainKeys := false, apart := false }
def IndexMakesSaid : Prop := indexMakesRow.holds Try.pinned (OpenSpec.ofChange indexMakesSpec)

/-- ITS FALSE NEIGHBOUR: 'it returns false'. Refute it at one input. -/
def indexMakesWrong : ChangeSpec := { name := "indexMakes", fn := fun _ => fun
  | [d] => { results := [.lit (.bool false)], args := [d] }
  | _ => none }
def IndexMakesWrongFalsely : Prop := indexMakesRow.holds Try.pinned (OpenSpec.ofChange indexMakesWrong)

/-- 'lysimeterlaw13.HeadBatch': WHATEVER THE INPUT: true; the input reads as it did. -/
def headBatchSpec : ChangeSpec := { name := "headBatch", fn := fun _ => fun
  | [d1, d2] => { results := [.lit (.bool true)], args := [d1, d2] }
  | _ => none }
def headBatchRow : OpenClaim := { program := "ytcgocdhffcnleaa", sum := "c12667875211549dad055c1804657959fd0abe4c640555c0f9ee863dce56b91c", func := "lysimeter/lysimeterlaw13.HeadBatch", spec := "headBatch", inPlace := ["internal/abi.NoEscape", "slices.overlaps[lysimeter/api.Sample]"], unfollowed := true, recurses := true, plainKeys := false, apart := false }
def HeadBatchSaid : Prop := headBatchRow.holds Try.pinned (OpenSpec.ofChange headBatchSpec)

/-- ITS FALSE NEIGHBOUR: 'it returns false'. Refute it at one input. -/
def headBatchWrong : ChangeSpec := { name := "headBatch", fn := fun _ => fun
  | [d1, d2] => { results := [.lit (.bool false)], args := [d1, d2] }
  | _ => none }
def HeadBatchWrongFalsely : Prop := headBatchRow.holds Try.pinned (OpenSpec.ofChange headBatchWrong)

/-- 'lysimeterlaw13.HeadCuts': WHATEVER THE INPUT: true; the input reads as it did. -/
def headCutsSpec : ChangeSpec := { name := "headCuts", fn := fun _ => fun
  | [d1, d2] => { results := [.lit (.bool true)], args := [d1, d2] }
  | _ => none }
def headCutsRow : OpenClaim := { program := "ytcgocdhffcnleaa", sum := "c12667875211549dad055c1804657959fd0abe4c640555c0f9ee863dce56b91c", func := "lysimeter/lysimeterlaw13.HeadCuts", spec := "headCuts", inPlace := ["internal/abi.NoEscape", "slices.overlaps[lysimeter/api.Sample]"], unfollowed := true, recurses := true, plainKeys := false, apart := false }
def HeadCutsSaid : Prop := headCutsRow.holds Try.pinned (OpenSpec.ofChange headCutsSpec)

/-- ITS FALSE NEIGHBOUR: 'it returns false'. Refute it at one input. -/
def headCutsWrong : ChangeSpec := { name := "headCuts", fn := fun _ => fun
  | [d1, d2] => { results := [.lit (.bool false)], args := [d1, d2] }
  | _ => none }
def HeadCutsWrongFalsely : Prop := headCutsRow.holds Try.pinned (OpenSpec.ofChange headCutsWrong)

/-- 'lysimeterlaw13.HeadPlays': WHATEVER THE INPUT: true; the input reads as it did. -/
def headPlaysSpec : ChangeSpec := { name := "headPlays", fn := fun _ => fun
  | [d1, d2, d3] => { results := [.lit (.bool true)], args := [d1, d2, d3] }
  | _ => none }
def headPlaysRow : OpenClaim := { program := "ytcgocdhffcnleaa", sum := "c12667875211549dad055c1804657959fd0abe4c640555c0f9ee863dce56b91c", func := "lysimeter/lysimeterlaw13.HeadPlays", spec := "headPlays", inPlace := ["internal/abi.NoEscape", "slices.overlaps[lysimeter/api.Sample]"], unfollowed := true, recurses := true, plainKeys := false, apart := false }
def HeadPlaysSaid : Prop := headPlaysRow.holds Try.pinned (OpenSpec.ofChange headPlaysSpec)

/-- ITS FALSE NEIGHBOUR: 'it returns false'. Refute it at one input. -/
def headPlaysWrong : ChangeSpec := { name := "headPlays", fn := fun _ => fun
  | [d1, d2, d3] => { results := [.lit (.bool false)], args := [d1, d2, d3] }
  | _ => none }
def HeadPlaysWrongFalsely : Prop := headPlaysRow.holds Try.pinned (OpenSpec.ofChange headPlaysWrong)

/-- 'lysimeterlaw15.IndexPacks': WHATEVER THE INPUT: true; the input reads as it did. -/
def indexPacksSpec : ChangeSpec := { name := "indexPacks", fn := fun _ => fun
  | [d] => { results := [.lit (.bool true)], args := [d] }
  | _ => none }
def indexPacksRow : OpenClaim := { program := "ytcgocdhffcnleaa", sum := "c12667875211549dad055c1804657959fd0abe4c640555c0f9ee863dce56b91c", func := "lysimeter/lysimeterlaw15.IndexPacks", spec := "indexPacks", inPlace := ["internal/abi.NoEscape"], unfollowed := true, recurses := true, plainKeys := false, apart := false }
def IndexPacksSaid : Prop := indexPacksRow.holds Try.pinned (OpenSpec.ofChange indexPacksSpec)

/-- ITS FALSE NEIGHBOUR: 'it returns false'. Refute it at one input. -/
def indexPacksWrong : ChangeSpec := { name := "indexPacks", fn := fun _ => fun
  | [d] => { results := [.lit (.bool false)], args := [d] }
  | _ => none }
def IndexPacksWrongFalsely : Prop := indexPacksRow.holds Try.pinned (OpenSpec.ofChange indexPacksWrong)

/-- 'lysimeterlaw15.IndexReads': WHATEVER THE INPUT: true; the input reads as it did. -/
def indexReadsSpec : ChangeSpec := { name := "indexReads", fn := fun _ => fun
  | [d] => { results := [.lit (.bool true)], args := [d] }
  | _ => none }
def indexReadsRow : OpenClaim := { program := "ytcgocdhffcnleaa", sum := "c12667875211549dad055c1804657959fd0abe4c640555c0f9ee863dce56b91c", func := "lysimeter/lysimeterlaw15.IndexReads", spec := "indexReads", inPlace := ["internal/abi.NoEscape"], unfollowed := true, recurses := true, plainKeys := false, apart := false }
def IndexReadsSaid : Prop := indexReadsRow.holds Try.pinned (OpenSpec.ofChange indexReadsSpec)

/-- ITS FALSE NEIGHBOUR: 'it returns false'. Refute it at one input. -/
def indexReadsWrong : ChangeSpec := { name := "indexReads", fn := fun _ => fun
  | [d] => { results := [.lit (.bool false)], args := [d] }
  | _ => none }
def IndexReadsWrongFalsely : Prop := indexReadsRow.holds Try.pinned (OpenSpec.ofChange indexReadsWrong)

/- THE SECOND FORM. 'bulk': how many values and letters a reading holds, each counted each time it is reached (what is shared counts as often as it is met; a slice's spare places count too). A statement '..UptoSaid' is the law's where the arguments, and the package variables that the reading takes, are together of bulk at most 1048576: NARROWER than '..Said'. Prove '..Said' where nothing that the law and all that it calls make is longer than what came in: it says more and counts as full. Else prove '..UptoSaid'. A law counts once. -/
mutual
def uptoBulk {H : Type} : DataW H → Nat
  | .lit (.string bytes) => bytes.length + 1
  | .lit _ => 1
  | .nil => 1
  | .ptr d => uptoBulk d + 1
  | .slice elems spare => uptoBulkAll elems + uptoBulkAll spare + 1
  | .agg parts => uptoBulkAll parts + 1
  | .iface _ d => uptoBulk d + 1
  | .map entries => uptoBulkEntries entries + 1
  | .held _ => 1
def uptoBulkAll {H : Type} : List (DataW H) → Nat
  | [] => 0
  | d :: r => uptoBulk d + uptoBulkAll r
def uptoBulkEntries {H : Type} : List (Lit × DataW H) → Nat
  | [] => 0
  | x :: r => uptoBulkEntry x + uptoBulkEntries r
def uptoBulkEntry {H : Type} : Lit × DataW H → Nat
  | (.string bytes, d) => bytes.length + uptoBulk d + 1
  | (_, d) => uptoBulk d + 1
 end
def uptoSmall : (H : Type) → List (DataW H) → Bool := fun _ ds => decide (uptoBulkAll ds ≤ 1048576)
def OpenSpec.upto (s : _root_.Go.ChangeSpec) : _root_.Go.OpenSpec := { _root_.Go.OpenSpec.ofChange s with cond := some uptoSmall }

/-- 'lysimeterlaw15.IndexFinds', WHERE WHAT IT READS IS OF BULK AT MOST 1048576: true; the input reads as it did. -/
def indexFindsUptoRow : OpenClaim := { program := "ytcgocdhffcnleaa", sum := "c12667875211549dad055c1804657959fd0abe4c640555c0f9ee863dce56b91c", func := "lysimeter/lysimeterlaw15.IndexFinds", spec := "indexFinds", inPlace := ["internal/abi.NoEscape"], unfollowed := true, recurses := true, plainKeys := false, apart := false, narrowed := true }
def IndexFindsUptoSaid : Prop := indexFindsUptoRow.holds Try.pinned (OpenSpec.upto indexFindsSpec)

/-- 'lysimeterlaw13.HeadWindow', WHERE WHAT IT READS IS OF BULK AT MOST 1048576: true; the input reads as it did. -/
def headWindowUptoRow : OpenClaim := { program := "ytcgocdhffcnleaa", sum := "c12667875211549dad055c1804657959fd0abe4c640555c0f9ee863dce56b91c", func := "lysimeter/lysimeterlaw13.HeadWindow", spec := "headWindow", inPlace := ["internal/abi.NoEscape", "slices.overlaps[lysimeter/api.Sample]"], unfollowed := true, recurses := true, plainKeys := false, apart := false, narrowed := true }
def HeadWindowUptoSaid : Prop := headWindowUptoRow.holds Try.pinned (OpenSpec.upto headWindowSpec)

/-- 'lysimeterlaw13.HeadLast', WHERE WHAT IT READS IS OF BULK AT MOST 1048576: true; the input reads as it did. -/
def headLastUptoRow : OpenClaim := { program := "ytcgocdhffcnleaa", sum := "c12667875211549dad055c1804657959fd0abe4c640555c0f9ee863dce56b91c", func := "lysimeter/lysimeterlaw13.HeadLast", spec := "headLast", inPlace := ["internal/abi.NoEscape", "slices.overlaps[lysimeter/api.Sample]"], unfollowed := true, recurses := true, plainKeys := false, apart := false, narrowed := true }
def HeadLastUptoSaid : Prop := headLastUptoRow.holds Try.pinned (OpenSpec.upto headLastSpec)

/-- 'lysimeterlaw15.IndexMakes', WHERE WHAT IT READS IS OF BULK AT MOST 1048576: true; the input reads as it did. -/
def indexMakesUptoRow : OpenClaim := { program := "ytcgocdhffcnleaa", sum := "c12667875211549dad055c1804657959fd0abe4c640555c0f9ee863dce56b91c", func := "lysimeter/lysimeterlaw15.IndexMakes", spec := "indexMakes", inPlace := ["internal/abi.NoEscape"], unfollowed := true, recurses := true, plainKeys := false, apart := false, narrowed := true }
def IndexMakesUptoSaid : Prop := indexMakesUptoRow.holds Try.pinned (OpenSpec.upto indexMakesSpec)

/-- 'lysimeterlaw13.HeadBatch', WHERE WHAT IT READS IS OF BULK AT MOST 1048576: true; the input reads as it did. -/
def headBatchUptoRow : OpenClaim := { program := "ytcgocdhffcnleaa", sum := "c12667875211549dad055c1804657959fd0abe4c640555c0f9ee863dce56b91c", func := "lysimeter/lysimeterlaw13.HeadBatch", spec := "headBatch", inPlace := ["internal/abi.NoEscape", "slices.overlaps[lysimeter/api.Sample]"], unfollowed := true, recurses := true, plainKeys := false, apart := false, narrowed := true }
def HeadBatchUptoSaid : Prop := headBatchUptoRow.holds Try.pinned (OpenSpec.upto headBatchSpec)

/-- 'lysimeterlaw13.HeadCuts', WHERE WHAT IT READS IS OF BULK AT MOST 1048576: true; the input reads as it did. -/
def headCutsUptoRow : OpenClaim := { program := "ytcgocdhffcnleaa", sum := "c12667875211549dad055c1804657959fd0abe4c640555c0f9ee863dce56b91c", func := "lysimeter/lysimeterlaw13.HeadCuts", spec := "headCuts", inPlace := ["internal/abi.NoEscape", "slices.overlaps[lysimeter/api.Sample]"], unfollowed := true, recurses := true, plainKeys := false, apart := false, narrowed := true }
def HeadCutsUptoSaid : Prop := headCutsUptoRow.holds Try.pinned (OpenSpec.upto headCutsSpec)

/-- 'lysimeterlaw13.HeadPlays', WHERE WHAT IT READS IS OF BULK AT MOST 1048576: true; the input reads as it did. -/
def headPlaysUptoRow : OpenClaim := { program := "ytcgocdhffcnleaa", sum := "c12667875211549dad055c1804657959fd0abe4c640555c0f9ee863dce56b91c", func := "lysimeter/lysimeterlaw13.HeadPlays", spec := "headPlays", inPlace := ["internal/abi.NoEscape", "slices.overlaps[lysimeter/api.Sample]"], unfollowed := true, recurses := true, plainKeys := false, apart := false, narrowed := true }
def HeadPlaysUptoSaid : Prop := headPlaysUptoRow.holds Try.pinned (OpenSpec.upto headPlaysSpec)

/-- 'lysimeterlaw15.IndexPacks', WHERE WHAT IT READS IS OF BULK AT MOST 1048576: true; the input reads as it did. -/
def indexPacksUptoRow : OpenClaim := { program := "ytcgocdhffcnleaa", sum := "c12667875211549dad055c1804657959fd0abe4c640555c0f9ee863dce56b91c", func := "lysimeter/lysimeterlaw15.IndexPacks", spec := "indexPacks", inPlace := ["internal/abi.NoEscape"], unfollowed := true, recurses := true, plainKeys := false, apart := false, narrowed := true }
def IndexPacksUptoSaid : Prop := indexPacksUptoRow.holds Try.pinned (OpenSpec.upto indexPacksSpec)

/-- 'lysimeterlaw15.IndexReads', WHERE WHAT IT READS IS OF BULK AT MOST 1048576: true; the input reads as it did. -/
def indexReadsUptoRow : OpenClaim := { program := "ytcgocdhffcnleaa", sum := "c12667875211549dad055c1804657959fd0abe4c640555c0f9ee863dce56b91c", func := "lysimeter/lysimeterlaw15.IndexReads", spec := "indexReads", inPlace := ["internal/abi.NoEscape"], unfollowed := true, recurses := true, plainKeys := false, apart := false, narrowed := true }
def IndexReadsUptoSaid : Prop := indexReadsUptoRow.holds Try.pinned (OpenSpec.upto indexReadsSpec)

end Rows
end Go.Proofs.Ytcgocdhffcnleaa
