/- Part 'M14' of the proof (Of): lemmas, each with its own conditions in its own statement. -/
import Derived.LaidOnce
import Derived.Lay
import Derived.Lib.LaidTab
import Derived.ProofKit
import Derived.SevenTiedAt
import Derived.Test.YthmicpkjickejaaDoorCards
import Derived.Test.YthmicpkjickejaaDoorRows
import Derived.Test.YthmicpkjickejaaDoorTie
import Derived.Test.YthmicpkjickejaaDoorM11
import Derived.Test.YthmicpkjickejaaDoorM13
import Derived.Test.YthmicpkjickejaaDoorM8
namespace Go.Proofs.YthmicpkjickejaaDoor
open Go.Sy
open Go.ChangeShapes Go.WideShapes Go.ChangeAt Go.RowKit
set_option maxRecDepth 100000
theorem own:ownKnob Tryd.prog.godebug=none:=by kernel_rfl
theorem laidOut:laidOutB Tryd.prog=true:=by kernel_rfl
theorem oInt:Opens Tryd.prog 3 Int:=opens_int (by kernel_rfl) (by kernel_rfl)
theorem oStr:Opens Tryd.prog 9 Str:=opens_str (by kernel_rfl) (by kernel_rfl)
theorem oPick:Opens Tryd.prog 30 Pick:=opens_struct (by kernel_rfl) (tt_ok 30 _ _ rfl).2 (opensF_cons rfl (by decide) oInt (opensF_one rfl oInt))
theorem oPicks:Opens Tryd.prog 22 (List Pick):=opens_list (by kernel_rfl) (tt_ok 22 _ _ rfl).2 oPick (by decide)
abbrev laidT : List (String × DataW Unit) := [("unicode/utf8.acceptRanges", Rows.laid_unicode_utf8_acceptRanges), ("unicode/utf8.first", Rows.laid_unicode_utf8_first)]
end Go.Proofs.YthmicpkjickejaaDoor
