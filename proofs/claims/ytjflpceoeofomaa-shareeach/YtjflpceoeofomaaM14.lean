/- Part 'M14' of the proof (Ops): lemmas, each with its own conditions in its own statement. -/
import Derived.Test.YtjflpceoeofomaaRows
import Derived.Test.YtjflpceoeofomaaM10
import Derived.Test.YtjflpceoeofomaaM12
import Derived.Test.YtjflpceoeofomaaM8
namespace Go.Proofs.Ytjflpceoeofomaa
open Go.Sy
open Go.ChangeShapes Go.WideShapes Go.ChangeAt Go.RowKit
set_option maxRecDepth 100000
theorem own : ownKnob Try.prog.godebug = none := by kernel_rfl
theorem laidOut : laidOutB Try.prog = true := by kernel_rfl
theorem o3 : Opens Try.prog 3 Int := opens_int (by kernel_rfl) (by kernel_rfl)
theorem o9 : Opens Try.prog 9 Str := opens_str (by kernel_rfl) (by kernel_rfl)
theorem o30 : Opens Try.prog 30 Nm := opens_struct (by kernel_rfl) (tt_ok 30 _ _ rfl).2 (opensF_cons rfl (by decide) o3 (opensF_one rfl o3))
theorem o32 : Opens Try.prog 32 Atm := opens_struct (by kernel_rfl) (tt_ok 32 _ _ rfl).2 (opensF_cons rfl (by decide) o9 (opensF_one rfl o30))
theorem o73 : Opens Try.prog 73 Expr := opens_struct (by kernel_rfl) (tt_ok 73 _ _ rfl).2 (opensF_cons rfl (by decide) o3 (opensF_cons rfl (by decide) o32 (opensF_one rfl o32)))
theorem o75 : Opens Try.prog 75 Stmt := opens_struct (by kernel_rfl) (tt_ok 75 _ _ rfl).2 (opensF_cons rfl (by decide) o3 (opensF_cons rfl (by decide) o9 (opensF_one rfl o73)))
theorem o34 : Opens Try.prog 34 Term := opens_struct (by kernel_rfl) (tt_ok 34 _ _ rfl).2 (opensF_cons rfl (by decide) o3 (opensF_cons rfl (by decide) o32 (opensF_cons rfl (by decide) o9 (opensF_one rfl o9))))
theorem o28 : Opens Try.prog 28 (List Stmt) := opens_list (by kernel_rfl) (tt_ok 28 _ _ rfl).2 o75 (by decide)
theorem o36 : Opens Try.prog 36 Block := opens_struct (by kernel_rfl) (tt_ok 36 _ _ rfl).2 (opensF_cons rfl (by decide) o9 (opensF_cons rfl (by decide) o28 (opensF_one rfl o34)))
theorem o22 : Opens Try.prog 22 (List Block) := opens_list (by kernel_rfl) (tt_ok 22 _ _ rfl).2 o36 (by decide)
theorem o24 : Opens Try.prog 24 Prog := opens_struct (by kernel_rfl) (tt_ok 24 _ _ rfl).2 (opensF_one rfl o22)
theorem o63 : Opens Try.prog 63 (Int × Int) := opens_struct (by kernel_rfl) (tt_ok 63 _ _ rfl).2 (opensF_cons rfl (by decide) o3 (opensF_one rfl o3))
theorem o38 : Opens Try.prog 38 (List (Int × Int)) := opens_list (by kernel_rfl) (tt_ok 38 _ _ rfl).2 o63 (by decide)
theorem o27 : Opens Try.prog 27 (List Int) := opens_list (by kernel_rfl) (tt_ok 27 _ _ rfl).2 o3 (by decide)
end Go.Proofs.Ytjflpceoeofomaa
