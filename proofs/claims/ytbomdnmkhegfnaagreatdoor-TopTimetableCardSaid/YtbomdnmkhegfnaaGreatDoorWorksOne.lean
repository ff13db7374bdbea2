/-
  THE PROGRAM: closed facts; Noughts by contract.
-/
import Derived.Test.YtbomdnmkhegfnaaGreatDoorProg
import Derived.Test.YtbomdnmkhegfnaaGreatDoorAbsTwo
import Derived.KernelRfl
set_option linter.all false
namespace Go.Abs
open Go.Proofs

/-! ## The program's closed facts -/

theorem follows_mixed : Tryz.prog.follows .mixedOrders = true := by kernel_rfl
theorem names_all : Tryz.prog.funcs.toList.all (fun fn => fn.name != "runtime.NumGoroutine") = true := by kernel_rfl
theorem names_ok : NamesOk Tryz.prog := fun g fn h => by
  have := List.all_eq_true.1 names_all fn (List.mem_of_getElem? (by rw [Array.getElem?_toList]; exact h))
  simpa using this
theorem gsize : Tryz.prog.globals.size = 7 := by kernel_rfl

/-! ## Noughts -/

noncomputable def noPrim : Prim := fun _ => none
theorem noPrim_ok (P : Program) : PrimOk P noPrim := ⟨fun f p h => by simp [noPrim] at h, fun f p h => by simp [noPrim] at h, fun f p h => by simp [noPrim] at h⟩
def nought : Value := .string ⟨(List.replicate 64 0).toArray⟩
noncomputable def Hg0 : AHeap := ⟨8, Tr.e⟩
theorem hg0_get (k : Nat) : Hg0.get k = none := Tr.get_e k
theorem hg0_closed : Closed Tryz.prog Hg0 := ⟨fun k B h => by rw [hg0_get] at h; simp at h, fun k B h => by rw [hg0_get] at h; simp at h, by rw [gsize]; exact Nat.lt_succ_self 7, fun φ k xs h => by rw [hg0_get] at h; simp at h⟩
theorem noughts_run : (callA Tryz.prog noPrim (fun _ _ => none) (fun _ _ => none) 3 61 [] Hg0).map Prod.fst = some nought := by kernel_rfl

end Go.Abs
