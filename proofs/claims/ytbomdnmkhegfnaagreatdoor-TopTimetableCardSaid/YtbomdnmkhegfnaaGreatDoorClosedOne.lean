/-
  THE ROW's CLOSED FACTS, one by one: for every input the law TopTimetable returns true.
-/
import Derived.Test.YtbomdnmkhegfnaaGreatDoorTie
import Derived.Test.YtbomdnmkhegfnaaGreatDoorCards
import Derived.JoinedOf
import Derived.KernelRfl
set_option linter.all false
namespace Go.Proofs.YtbomdnmkhegfnaaGreatDoor
open Go

theorem jf1 : Rows.topTimetableRow.wf (OpenSpec.ofChange Rows.topTimetableSpec) = true := by kernel_rfl
theorem jf2 : laidOutB Tryz.prog = true := by kernel_rfl
theorem jf3 : mapsRowed Tryz.prog = true := by kernel_rfl
theorem jf4 : (Tryz.f3.params.all (Tryz.prog.readableRec ·)) = true := by kernel_rfl
theorem jf5 : namedTie Tryz.prog Rows.topTimetableRow.named Rows.topTimetableSpec.vars = true := by kernel_rfl
theorem jf10 : (Rows.topTimetableRow.inPlace == Tryz.prog.inPlace 3) = true := by kernel_rfl
theorem jf11 : (Rows.topTimetableRow.unfollowed == Tryz.prog.unfollowed 3) = true := by kernel_rfl
theorem jf12 : (Rows.topTimetableRow.recurses == Tryz.prog.recurses 3) = true := by kernel_rfl
theorem jf13 : (Rows.topTimetableRow.named == Tryz.prog.varsNamed 3) = true := by kernel_rfl

end Go.Proofs.YtbomdnmkhegfnaaGreatDoor
