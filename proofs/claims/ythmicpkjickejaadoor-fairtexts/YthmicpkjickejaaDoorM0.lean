/- Part 'M0' of the proof (Sh1): lemmas, each with its own conditions in its own statement. -/
import Derived.Shelf.Bits.Mul64
import Derived.Test.YthmicpkjickejaaDoorProg
namespace Go.Proofs
open Go.Shelf
def Tryd.lays212_ren:Go.Shelf.Ren:=⟨fun | 212=>36 | 263=>46 | 264=>47 | n=>n,fun | 46=>62 | 51=>71 | 146=>72 | 53=>43 | 148=>74 | n=>n,fun | n=>n⟩
theorem Tryd.lays212:Go.Proofs.Lays.n212 Tryd.prog Tryd.lays212_ren:={
 mixed:=by kernel_rfl
 f212:=Tryd.func36.trans (congrArg some (by kernel_rfl))
 f263:=Tryd.func46.trans (congrArg some (by kernel_rfl))
 f264:=Tryd.func47.trans (congrArg some (by kernel_rfl))
 t46:=Tryd.underlying62
 a46:=Tryd.isAgg62
 z46:=Tryd.sizeOf62
 v46:=Tryd.zeroValue62
 t51:=Tryd.underlying71
 a51:=Tryd.isAgg71
 z51:=Tryd.sizeOf71
 v51:=Tryd.zeroValue71
 t53:=Tryd.underlying43
 a53:=Tryd.isAgg43
 z53:=Tryd.sizeOf43
 v53:=Tryd.zeroValue43
 t146:=Tryd.underlying72
 a146:=Tryd.isAgg72
 z146:=Tryd.sizeOf72
 v146:=Tryd.zeroValue72
 t148:=Tryd.underlying74
 a148:=Tryd.isAgg74
 z148:=Tryd.sizeOf74
 v148:=Tryd.zeroValue74 }
open Go.RowKit Go.Lib in
theorem Tryd.bits_Mul (x y:Nat) (hx:x<18446744073709551616) (hy:y<18446744073709551616) (w:World):
  Calls Tryd.prog 36 #[.int .u64 x,.int .u64 y] w fun e w'=>e = .returned (.tuple #[.int .u64 ((x*y / 18446744073709551616:Nat):Int),.int .u64 ((x*y % 18446744073709551616:Nat):Int)])∧w'=w:=Any.bits_Mul Tryd.lays212 x y hx hy w
end Go.Proofs
