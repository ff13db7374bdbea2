/-
  THE CLOSED HEAP of the listed variables; works() by contract.
-/
import Derived.Test.YtbomdnmkhegfnaaGreatDoorAbsTwo
set_option linter.all false
namespace Go.Abs

def hErr : Value := .iface 344 (.agg #[.pointer (some ⟨7, 35, none⟩)])
def crcT : List Value := [.int .u32 0, .int .u32 274646895, .int .u32 549293790, .int .u32 820201905, .int .u32 1098587580, .int .u32 1361435347, .int .u32 1640403810, .int .u32 1905808397, .int .u32 2197175160, .int .u32 2460548119, .int .u32 2722870694, .int .u32 2987750089, .int .u32 3280807620, .int .u32 3553878443, .int .u32 3811616794, .int .u32 4084100981]
noncomputable def Hg : AHeap := ((⟨8, Tr.e⟩ : AHeap).set 0 (some (.ro crcT))).set 1 (some (.ro [hErr]))
theorem hg_get (k : Nat) : Hg.get k = if k = 1 then some (.ro [hErr]) else if k = 0 then some (.ro crcT) else none := by
  unfold Hg
  rw [AHeap.get_set, AHeap.get_set]
  rfl
open Classical in
noncomputable def worksA (args : List Value) (H : AHeap) : Option (Value × AHeap) :=
  if args = [] ∧ ∀ k B, Hg.get k = some B → H.get k = some B then some (.bool true, H) else none
theorem worksA_at {H : AHeap} (h : ∀ k B, Hg.get k = some B → H.get k = some B) : worksA [] H = some (.bool true, H) := by
  unfold worksA
  rw [if_pos ⟨rfl, h⟩]
theorem worksA_inv {args : List Value} {H H' : AHeap} {v : Value} (h : worksA args H = some (v, H')) : args = [] ∧ (∀ k B, Hg.get k = some B → H.get k = some B) ∧ v = .bool true ∧ H' = H := by
  unfold worksA at h
  split at h
  · rename_i hc
    simp only [Option.some.injEq, Prod.mk.injEq] at h
    exact ⟨hc.1, hc.2, h.1.symm, h.2.symm⟩
  · simp at h

end Go.Abs
