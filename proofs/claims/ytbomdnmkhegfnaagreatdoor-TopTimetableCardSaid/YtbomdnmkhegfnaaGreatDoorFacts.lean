/-
  FACTS of the program's types, by the kernel.
-/
import Derived.Test.YtbomdnmkhegfnaaGreatDoorGenOne
import Derived.Test.YtbomdnmkhegfnaaGreatDoorGenTwo
import Derived.Test.YtbomdnmkhegfnaaGreatDoorGenThree
import Derived.Test.YtbomdnmkhegfnaaGreatDoorTopOne
set_option linter.all false
namespace Go.Abs
open Go.Proofs

theorem dk35 : descKind Tryz.prog 35 = 7 := by kernel_rfl
theorem dk45 : descKind Tryz.prog 45 = 6 := by kernel_rfl
theorem dk4 : descKind Tryz.prog 4 = 5 := by kernel_rfl
theorem build50 (a b c : Int) : buildA (buildT Tryz.prog 50) [(0, .int .i64 a), (1, .int .i64 b), (2, .int .i64 c)] = some (.agg [.int .i64 a, .int .i64 b, .int .i64 c].toArray) := by kernel_rfl
theorem build33 (a b c : Int) : buildA (buildT Tryz.prog 33) [(0, .int .i64 a), (1, .int .i64 b), (2, .int .i64 c)] = some (.agg [.int .i64 a, .int .i64 b, .int .i64 c].toArray) := by kernel_rfl
theorem build27 : buildA (buildT Tryz.prog 27) [] = some (.agg [.int .i64 0, .slice none 0 0].toArray) := by kernel_rfl
/-- A message as a ring holds it. -/
structure Msg where
  b : List Int
  hb : b.length = 64
  n : Int
  t : Int
def bcells (l : List Int) : List Value := l.map fun x => .int .u8 x
def mcells (m : Msg) : List Value := bcells m.b ++ ([.int .i64 m.n, .int .u64 m.t] : List Value)
theorem mcells_len (m : Msg) : (mcells m).length = 66 := by simp [mcells, bcells, m.hb]
def zMsg : Msg := ⟨List.replicate 64 0, by simp, 0, 0⟩
/-- A channel's cells. -/
def chCells (kind most size : Int) (ring : List Msg) (first n lost : Int) : List Value := ([.int .i64 kind, .int .i64 most, .int .i64 size] : List Value) ++ ring.flatMap mcells ++ ([.int .i64 first, .int .i64 n, .int .u64 lost] : List Value)
theorem zero102 : zeroC Tryz.prog 102 = mcells zMsg := by kernel_rfl
theorem build102 : buildA (buildT Tryz.prog 102) [] = some (.agg (mcells zMsg).toArray) := by kernel_rfl
theorem build102s (n t : Int) : buildA (buildT Tryz.prog 102) [(1, .int .i64 n), (2, .int .u64 t)] = some (.agg (mcells ⟨List.replicate 64 0, List.length_replicate, n, t⟩).toArray) := by kernel_rfl
theorem zero105 : zeroC Tryz.prog 105 = chCells 0 0 0 (List.replicate 16 zMsg) 0 0 0 := by kernel_rfl
theorem build105 (a b c : Int) : buildA (buildT Tryz.prog 105) [(0, .int .i64 a), (1, .int .i64 b), (2, .int .i64 c)] = some (.agg (chCells a b c (List.replicate 16 zMsg) 0 0 0).toArray) := by kernel_rfl
theorem guard50 : Tryz.prog.eqGuardType Tryz.prog.depth 50 = false := by kernel_rfl
theorem guard102 : Tryz.prog.eqGuardType Tryz.prog.depth 102 = false := by kernel_rfl
theorem refl50 (a b c : Int) : reflOk Tryz.prog 10000 50 (.agg [.int .i64 a, .int .i64 b, .int .i64 c].toArray) = true := by kernel_rfl
theorem neq50 (ox oy : Operand) (a b c : Int) : binA Tryz.prog .neq 50 ox oy (.agg [.int .i64 a, .int .i64 b, .int .i64 c].toArray) (.agg [.int .i64 a, .int .i64 b, .int .i64 c].toArray) = some (.bool false) := agg_neq _ _ _ guard50 (refl50 a b c) rfl

theorem refl102t (f : Nat → Int) (n t : Int) : reflOk Tryz.prog 10000 102 (.agg (bcells (tab f 64) ++ ([.int .i64 n, .int .u64 t] : List Value)).toArray) = true := by kernel_rfl
theorem refl102 (m : Msg) : reflOk Tryz.prog 10000 102 (.agg (mcells m).toArray) = true := by
  have h := tab_of 0 m.b
  rw [m.hb] at h
  simp only [mcells]
  rw [h]
  exact refl102t _ _ _

end Go.Abs
