/- Part 'M14' of the proof (Od): lemmas, each with its own conditions in its own statement. -/
import Derived.LaidOnce
import Derived.Lay
import Derived.Lib.LaidTab
import Derived.ProofKit
import Derived.SevenTiedAt
import Derived.Test.YtheokcjommfopaaDoorCards
import Derived.Test.YtheokcjommfopaaDoorRows
import Derived.Test.YtheokcjommfopaaDoorTie
import Derived.Test.YtheokcjommfopaaDoorM11
import Derived.Test.YtheokcjommfopaaDoorM13
import Derived.Test.YtheokcjommfopaaDoorM8
namespace Go.Proofs.YtheokcjommfopaaDoor
open Go.Sy
open Go.ChangeShapes Go.WideShapes Go.ChangeAt Go.RowKit
set_option maxRecDepth 100000
theorem own:ownKnob Tryd.prog.godebug=none:=by kernel_rfl
theorem laidOut:laidOutB Tryd.prog=true:=by kernel_rfl
theorem oStr:Opens Tryd.prog 9 Str:=opens_str (by kernel_rfl) (by kernel_rfl)
abbrev laidT : List (String × DataW Unit) := [("unicode/utf8.acceptRanges", Rows.laid_unicode_utf8_acceptRanges), ("unicode/utf8.first", Rows.laid_unicode_utf8_first)]
end Go.Proofs.YtheokcjommfopaaDoor
