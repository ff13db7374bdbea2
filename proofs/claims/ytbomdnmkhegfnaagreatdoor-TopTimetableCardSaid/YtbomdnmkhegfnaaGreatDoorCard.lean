/-
  A TABLE IS ITS PLACES, A CAP ITS COUNT, A CHANNEL ITS ROW: for every input the law TopTimetable returns true, and each argument reads behind the call as it read before; the listed variables are tied to the program's text. No condition beyond the given statement's.
-/
import Derived.Test.YtbomdnmkhegfnaaGreatDoorLift
import Derived.Test.YtbomdnmkhegfnaaGreatDoorClosedTwo
set_option linter.all false
namespace Go.Proofs.YtbomdnmkhegfnaaGreatDoor
open Go Go.ChangeShapes Go.WideShapes Go.RowKit Go.ChangeAt Go.WideElems

theorem jinst : Tryz.f3.isInstance Tryz.prog Rows.topTimetableRow.origin Rows.topTimetableRow.targs := of_decide_eq_true (by kernel_rfl)
theorem jwrap : Tryz.f3.isWrapper Tryz.prog Rows.topTimetableRow.wrapper Rows.topTimetableRow.mainSum := by
  unfold Func.isWrapper; rw [if_neg (of_decide_eq_false (by kernel_rfl))]; exact ⟨rfl, rfl⟩
theorem jnamed : Tryz.prog.funcNamed Rows.topTimetableRow.func = some 3 := by kernel_rfl

theorem jstand : (#[22, 3, 3, 3, 3, 22, 23] : Array TypeId).all (fun t => !Tryz.prog.wantsStandIn t) = true := by kernel_rfl

theorem topTimetable_holds : Rows.TopTimetableSaid :=
  OpenClaim.holds_of_wide 3 Tryz.f3 rfl rfl rfl rfl rfl rfl rfl ⟨rfl, rfl, rfl, rfl, rfl⟩ rfl rfl rfl rfl rfl jnamed Tryz.func3 closed_facts jinst jwrap
    (fun os started H enc _ => lifted os started H enc)

theorem topTimetable_card_holds : Rows.TopTimetableCardSaid :=
  Claim7.holds_tied_plain_at .later [] [.data, .data, .data, .data, .handle, .data] true (true, "13b118d21e3f47c1f355658635faa37d712d6024fe69a9b314c5585cfa794a93") true
    topTimetable_holds (fun _ h => by cases h) (by kernel_rfl) (fun _ h => by cases h) topTimetable_row_tie rfl ⟨rfl, rfl⟩ (by kernel_rfl) rfl
    (fun f fn hf hfn => by
      obtain rfl : f = 3 := (Option.some.inj (jnamed.symm.trans hf)).symm
      obtain rfl : fn = Tryz.f3 := (Option.some.inj (Tryz.func3.symm.trans hfn)).symm
      exact ⟨by kernel_rfl, fun j t ht => by
        rw [Tryz.params3] at ht
        have h : Tryz.prog.wantsStandIn t = false := by simpa using Array.all_eq_true_iff_forall_mem.1 jstand t (Array.mem_of_getElem? ht)
        exact h⟩)
    (by kernel_rfl)
#print axioms topTimetable_card_holds

end Go.Proofs.YtbomdnmkhegfnaaGreatDoor
