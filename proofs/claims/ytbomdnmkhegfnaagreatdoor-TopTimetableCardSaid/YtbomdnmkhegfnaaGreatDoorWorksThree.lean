/-
  works() IS TRUE, by the kernel.
-/
import Derived.Test.YtbomdnmkhegfnaaGreatDoorWorksTwo
set_option linter.all false
namespace Go.Abs
open Go.Proofs

set_option maxRecDepth 1000000 in
theorem works_run : (callA Tryz.prog prim0 (fun _ _ => none) (fun _ _ => none) 60 4 [] Hg).map Prod.fst = some (.bool true) := by kernel_rfl

end Go.Abs
