/- Parts of the proof of the law's row, put together: see the theorems' own lines. -/
import Derived.SizedLaws
import Derived.ChangeSlices
-- PRINTED WORDS (module Derived/Print/Sized.lean): go-gate-2's, for the rows of laws over slices: an AI agent of Go's test side, Tue Nov 17 2026; no person has read it. Lean checks it.
namespace Go.Proofs.YtcgocdhffcnleaaW.PrintWords
open Go.ChangeShapes Go.WideShapes
end Go.Proofs.YtcgocdhffcnleaaW.PrintWords
