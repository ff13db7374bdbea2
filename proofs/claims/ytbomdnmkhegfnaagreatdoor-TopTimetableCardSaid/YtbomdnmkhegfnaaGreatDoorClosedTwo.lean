/-
  THE ROW's CLOSED FACTS, together: for every input the law TopTimetable returns true.
-/
import Derived.Test.YtbomdnmkhegfnaaGreatDoorClosedOne
set_option linter.all false
namespace Go.Proofs.YtbomdnmkhegfnaaGreatDoor
open Go

set_option maxRecDepth 100000 in
theorem closed_facts : joinedFacts Tryz.prog 3 Tryz.f3 Rows.topTimetableSpec Rows.topTimetableRow = true := by
  simp only [joinedFacts, Bool.and_eq_true]
  repeat' apply And.intro
  all_goals first
    | with_reducible exact jf1
    | with_reducible exact jf2
    | with_reducible exact jf3
    | with_reducible exact jf4
    | with_reducible exact jf5
    | with_reducible exact jf10
    | with_reducible exact jf11
    | with_reducible exact jf12
    | with_reducible exact jf13
    | kernel_rfl

end Go.Proofs.YtbomdnmkhegfnaaGreatDoor
