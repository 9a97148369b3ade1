/- Part 'M14' of the proof (Od): lemmas, each with its own conditions in its own statement. -/
import Derived.LaidOnce
import Derived.Lay
import Derived.Lib.LaidTab
import Derived.ProofKit
import Derived.SevenTiedAt
import Derived.Test.YtheokcjommfopaaDoorCards
import Derived.Test.YtheokcjommfopaaDoorRows
import Derived.Test.YtheokcjommfopaaDoorTie
import Derived.Test.YtheokcjommfopaaDoorM11
import Derived.Test.YtheokcjommfopaaDoorM13
import Derived.Test.YtheokcjommfopaaDoorM8
namespace Go.Proofs.YtheokcjommfopaaDoor
open Go.Sy
open Go.ChangeShapes Go.WideShapes Go.ChangeAt Go.RowKit
set_option maxRecDepth 100000
theorem own:ownKnob Tryd.prog.godebug=none:=by kernel_rfl
theorem laidOut:laidOutB Tryd.prog=true:=by kernel_rfl
theorem oInt:Opens Tryd.prog 3 Int:=opens_int (by kernel_rfl) (by kernel_rfl)
theorem oStr:Opens Tryd.prog 9 Str:=opens_str (by kernel_rfl) (by kernel_rfl)
theorem oStrs:Opens Tryd.prog 42 (List Str):=opens_list (by kernel_rfl) (tt_ok 42 _ _ rfl).2 oStr (by decide)
theorem oRow:Opens Tryd.prog 44 Row:=opens_struct (by kernel_rfl) (tt_ok 44 _ _ rfl).2 (opensF_cons rfl (by decide) oStr (opensF_cons rfl (by decide) oStrs (opensF_one rfl oStrs)))
theorem oRows:Opens Tryd.prog 23 (List Row):=opens_list (by kernel_rfl) (tt_ok 23 _ _ rfl).2 oRow (by decide)
theorem oRep:Opens Tryd.prog 25 Report:=opens_struct (by kernel_rfl) (tt_ok 25 _ _ rfl).2 (opensF_cons rfl (by decide) oInt (opensF_one rfl oRows))
abbrev laidT : List (String × DataW Unit) := [("unicode/utf8.acceptRanges", Rows.laid_unicode_utf8_acceptRanges), ("unicode/utf8.first", Rows.laid_unicode_utf8_first)]
end Go.Proofs.YtheokcjommfopaaDoor
