/- printed by Gen.lean -/
import Derived.Test.YtbomdnmkhegfnaaGreatDoorProg
import Derived.KernelRfl
import Derived.Test.YtbomdnmkhegfnaaGreatDoorAbsTwo
set_option linter.all false
namespace Go.Abs
open Go.Proofs
/-! ## nacelle/ports.New -/
 
noncomputable def tt14_hook (C : CallF) : HookK := fun i => none
 
def tt14_loops : List (Nat × List Nat) := []
 
def tt14_cuts : List (Nat × List Nat) := []
 
 
noncomputable def tt14j14 (C : CallF) (s0 s1 s2 s15 : Value) (H : AHeap) : Option (Value × AHeap) :=
 boolK s15 (
 (buildA (buildT Tryz.prog 105) [(0, s0), (1, s1), (2, s2)]).bind fun v0 =>
 (newPtr (cellsOf v0)).bind fun p1 =>
 some (.tuple [(p1.2 H.next), (.int .i64 0)].toArray, (H.push p1.1))) (
 (binA Tryz.prog .eql 3 (.tmp 23) (.const (.int .i64 1)) s0 (.int .i64 1)).bind fun v4 =>
 boolK v4 (
 (binA Tryz.prog .geq 3 (.tmp 30) (.const (.int .i64 1)) s1 (.int .i64 1)).bind fun v5 =>
 boolK v5 (
 (binA Tryz.prog .leq 3 (.tmp 34) (.const (.int .i64 16)) s1 (.int .i64 16)).bind fun v6 =>
 boolK v6 (
 (buildA (buildT Tryz.prog 105) [(0, s0), (1, s1), (2, s2)]).bind fun v7 =>
 (newPtr (cellsOf v7)).bind fun p8 =>
 some (.tuple [(p8.2 H.next), (.int .i64 0)].toArray, (H.push p8.1))) (
 some (.tuple [(.pointer none), (.int .i64 1)].toArray, H))) (
 some (.tuple [(.pointer none), (.int .i64 1)].toArray, H))) (
 (binA Tryz.prog .eql 3 (.tmp 26) (.const (.int .i64 2)) s0 (.int .i64 2)).bind fun v9 =>
 boolK v9 (
 (binA Tryz.prog .geq 3 (.tmp 30) (.const (.int .i64 1)) s1 (.int .i64 1)).bind fun v10 =>
 boolK v10 (
 (binA Tryz.prog .leq 3 (.tmp 34) (.const (.int .i64 16)) s1 (.int .i64 16)).bind fun v11 =>
 boolK v11 (
 (buildA (buildT Tryz.prog 105) [(0, s0), (1, s1), (2, s2)]).bind fun v12 =>
 (newPtr (cellsOf v12)).bind fun p13 =>
 some (.tuple [(p13.2 H.next), (.int .i64 0)].toArray, (H.push p13.1))) (
 some (.tuple [(.pointer none), (.int .i64 1)].toArray, H))) (
 some (.tuple [(.pointer none), (.int .i64 1)].toArray, H))) (
 some (.tuple [(.pointer none), (.int .i64 1)].toArray, H))))
 
noncomputable def tt14j33 (C : CallF) (s0 s1 s2 s15 : Value) (H : AHeap) : Option (Value × AHeap) :=
 boolK s15 (
 (buildA (buildT Tryz.prog 105) [(0, s0), (1, s1), (2, s2)]).bind fun v19 =>
 (newPtr (cellsOf v19)).bind fun p20 =>
 some (.tuple [(p20.2 H.next), (.int .i64 0)].toArray, (H.push p20.1))) (
 (binA Tryz.prog .eql 3 (.tmp 23) (.const (.int .i64 1)) s0 (.int .i64 1)).bind fun v23 =>
 boolK v23 (
 (binA Tryz.prog .geq 3 (.tmp 30) (.const (.int .i64 1)) s1 (.int .i64 1)).bind fun v24 =>
 boolK v24 (
 (binA Tryz.prog .leq 3 (.tmp 34) (.const (.int .i64 16)) s1 (.int .i64 16)).bind fun v25 =>
 boolK v25 (
 (buildA (buildT Tryz.prog 105) [(0, s0), (1, s1), (2, s2)]).bind fun v26 =>
 (newPtr (cellsOf v26)).bind fun p27 =>
 some (.tuple [(p27.2 H.next), (.int .i64 0)].toArray, (H.push p27.1))) (
 some (.tuple [(.pointer none), (.int .i64 1)].toArray, H))) (
 some (.tuple [(.pointer none), (.int .i64 1)].toArray, H))) (
 (binA Tryz.prog .eql 3 (.tmp 26) (.const (.int .i64 2)) s0 (.int .i64 2)).bind fun v28 =>
 boolK v28 (
 (binA Tryz.prog .geq 3 (.tmp 30) (.const (.int .i64 1)) s1 (.int .i64 1)).bind fun v29 =>
 boolK v29 (
 (binA Tryz.prog .leq 3 (.tmp 34) (.const (.int .i64 16)) s1 (.int .i64 16)).bind fun v30 =>
 boolK v30 (
 (buildA (buildT Tryz.prog 105) [(0, s0), (1, s1), (2, s2)]).bind fun v31 =>
 (newPtr (cellsOf v31)).bind fun p32 =>
 some (.tuple [(p32.2 H.next), (.int .i64 0)].toArray, (H.push p32.1))) (
 some (.tuple [(.pointer none), (.int .i64 1)].toArray, H))) (
 some (.tuple [(.pointer none), (.int .i64 1)].toArray, H))) (
 some (.tuple [(.pointer none), (.int .i64 1)].toArray, H))))
 
noncomputable def tt14 (C : CallF) (x0 x1 x2 : Value) (H : AHeap) : Option (Value × AHeap) :=
 (binA Tryz.prog .lss 3 (.tmp 9) (.const (.int .i64 0)) x2 (.int .i64 0)).bind fun v17 =>
 boolK v17 (
 some (.tuple [(.pointer none), (.int .i64 1)].toArray, H)) (
 (binA Tryz.prog .gtr 3 (.tmp 12) (.const (.int .i64 64)) x2 (.int .i64 64)).bind fun v18 =>
 boolK v18 (
 some (.tuple [(.pointer none), (.int .i64 1)].toArray, H)) (
 (binA Tryz.prog .eql 3 (.tmp 16) (.const (.int .i64 0)) x0 (.int .i64 0)).bind fun v34 =>
 boolK v34 (
 (binA Tryz.prog .eql 3 (.tmp 19) (.const (.int .i64 1)) x1 (.int .i64 1)).bind fun v35 =>
 tt14j33 C x0 x1 x2 v35 H) (
 tt14j33 C x0 x1 x2 (.bool false) H)))
 
theorem tt14_tie (C : CallF) (x0 x1 x2 : Value) (H : AHeap) : execK C Tryz.prog 42 tt14_cuts (tt14_hook C) (codeIn (fnOf Tryz.prog 14)) (argsA [x0, x1, x2] 0) H (retK Tryz.prog (fnOf Tryz.prog 14).results.toList) = tt14 C x0 x1 x2 H := by kernel_rfl
 
theorem tt14_from {prim : Prim} {keep : Keep} {n : Nat} (hp : prim 14 = none) (hk : keep 14 = keepOf tt14_loops tt14_cuts) (x0 x1 x2 : Value) (H : AHeap) (y : Value × AHeap) (h : tt14 (callA Tryz.prog prim keep noHooks n) x0 x1 x2 H = some y) : callA Tryz.prog prim keep noHooks (n + 1) 14 [x0, x1, x2] H = some y :=
   call_from (hook := tt14_hook (callA Tryz.prog prim keep noHooks n)) (m := 42) hk (cutsOk_mem (by kernel_rfl)) hp (by kernel_rfl) (by kernel_rfl) (loops_none (by kernel_rfl)) (by kernel_rfl) ((tt14_tie _ x0 x1 x2 H).trans h)
 
/-! ## nacelle/filter.Begin -/
 
noncomputable def tt15_hook (C : CallF) : HookK := fun i => none
 
def tt15_loops : List (Nat × List Nat) := []
 
def tt15_cuts : List (Nat × List Nat) := []
 
 
noncomputable def tt15 (C : CallF) (x0 x1 : Value) (H : AHeap) : Option (Value × AHeap) :=
 (buildA (buildT Tryz.prog 50) [(0, x0), (1, x1), (2, x1)]).bind fun v0 =>
 (storeA (some 3) (.pointer (some ⟨(H.push (.cells [(.int .i64 0), (.int .i64 0), (.int .i64 0)])).next, 0, none⟩)) v0 ((H.push (.cells [(.int .i64 0), (.int .i64 0), (.int .i64 0)])).push (.cells [(.int .i64 0), (.int .i64 0), (.int .i64 0)]))).bind fun p1 =>
 (loadA (some (some 3)) (.pointer (some ⟨(H.push (.cells [(.int .i64 0), (.int .i64 0), (.int .i64 0)])).next, 0, none⟩)) p1.2).bind fun v2 =>
 (C 24 [v2] p1.2).bind fun p3 =>
 (unA .not p3.1).bind fun v4 =>
 boolK v4 (
 (buildA (buildT Tryz.prog 50) []).bind fun v5 =>
 (storeA (some 3) (.pointer (some ⟨H.next, 0, none⟩)) v5 p3.2).bind fun p6 =>
 returnA (consOpt (loadA (some (some 3)) (.pointer (some ⟨H.next, 0, none⟩)) p6.2) (consOpt (some (.int .i64 1)) (some []))) p6.2) (
 (loadA (some (some 3)) (.pointer (some ⟨(H.push (.cells [(.int .i64 0), (.int .i64 0), (.int .i64 0)])).next, 0, none⟩)) p3.2).bind fun v7 =>
 (storeA (some 3) (.pointer (some ⟨H.next, 0, none⟩)) v7 p3.2).bind fun p8 =>
 returnA (consOpt (loadA (some (some 3)) (.pointer (some ⟨H.next, 0, none⟩)) p8.2) (consOpt (some (.int .i64 0)) (some []))) p8.2)
 
theorem tt15_tie (C : CallF) (x0 x1 : Value) (H : AHeap) : execK C Tryz.prog 16 tt15_cuts (tt15_hook C) (codeIn (fnOf Tryz.prog 15)) (argsA [x0, x1] 0) H (retK Tryz.prog (fnOf Tryz.prog 15).results.toList) = tt15 C x0 x1 H := by kernel_rfl
 
theorem tt15_from {prim : Prim} {keep : Keep} {n : Nat} (hp : prim 15 = none) (hk : keep 15 = keepOf tt15_loops tt15_cuts) (x0 x1 : Value) (H : AHeap) (y : Value × AHeap) (h : tt15 (callA Tryz.prog prim keep noHooks n) x0 x1 H = some y) : callA Tryz.prog prim keep noHooks (n + 1) 15 [x0, x1] H = some y :=
   call_from (hook := tt15_hook (callA Tryz.prog prim keep noHooks n)) (m := 16) hk (cutsOk_mem (by kernel_rfl)) hp (by kernel_rfl) (by kernel_rfl) (loops_none (by kernel_rfl)) (by kernel_rfl) ((tt15_tie _ x0 x1 H).trans h)
 
/-! ## (*nacelle/ports.Channel).Kind -/
 
noncomputable def tt16_hook (C : CallF) : HookK := fun i => none
 
def tt16_loops : List (Nat × List Nat) := []
 
def tt16_cuts : List (Nat × List Nat) := []
 
 
noncomputable def tt16 (C : CallF) (x0 : Value) (H : AHeap) : Option (Value × AHeap) :=
 (nilA x0).bind fun v0 =>
 (fieldPtr (some (0, 1, 3)) v0).bind fun v1 =>
 (loadA (some none) v1 H).bind fun v2 =>
 some (v2, H)
 
theorem tt16_tie (C : CallF) (x0 : Value) (H : AHeap) : execK C Tryz.prog 7 tt16_cuts (tt16_hook C) (codeIn (fnOf Tryz.prog 16)) (argsA [x0] 0) H (retK Tryz.prog (fnOf Tryz.prog 16).results.toList) = tt16 C x0 H := by kernel_rfl
 
theorem tt16_from {prim : Prim} {keep : Keep} {n : Nat} (hp : prim 16 = none) (hk : keep 16 = keepOf tt16_loops tt16_cuts) (x0 : Value) (H : AHeap) (y : Value × AHeap) (h : tt16 (callA Tryz.prog prim keep noHooks n) x0 H = some y) : callA Tryz.prog prim keep noHooks (n + 1) 16 [x0] H = some y :=
   call_from (hook := tt16_hook (callA Tryz.prog prim keep noHooks n)) (m := 7) hk (cutsOk_mem (by kernel_rfl)) hp (by kernel_rfl) (by kernel_rfl) (loops_none (by kernel_rfl)) (by kernel_rfl) ((tt16_tie _ x0 H).trans h)
 
/-! ## nacelle/filter.Frame -/
 
noncomputable def tt17_hook (C : CallF) : HookK := fun i => none
 
def tt17_loops : List (Nat × List Nat) := []
 
def tt17_cuts : List (Nat × List Nat) := []
 
 
noncomputable def tt17 (C : CallF) (x0 : Value) (H : AHeap) : Option (Value × AHeap) :=
 (newPtr (cellsOf x0)).bind fun p0 =>
 (loadA (some (some 3)) (p0.2 H.next) ((H.push p0.1).push (.cells [(.int .i64 0), (.int .i64 0), (.int .i64 0)]))).bind fun v3 =>
 (C 24 [v3] ((H.push p0.1).push (.cells [(.int .i64 0), (.int .i64 0), (.int .i64 0)]))).bind fun p4 =>
 boolK p4.1 (
 (fieldPtr (some (2, 1, 3)) (p0.2 H.next)).bind fun v5 =>
 (loadA (some none) v5 p4.2).bind fun v6 =>
 (fieldPtr (some (0, 1, 3)) (p0.2 H.next)).bind fun v7 =>
 (loadA (some none) v7 p4.2).bind fun v8 =>
 (binA Tryz.prog .add 3 (.tmp 6) (.tmp 8) v6 v8).bind fun v9 =>
 (fieldPtr (some (1, 1, 3)) (p0.2 H.next)).bind fun v10 =>
 (loadA (some none) v10 p4.2).bind fun v11 =>
 (minOp [v9, v11]).bind fun v12 =>
 (fieldPtr (some (2, 1, 3)) (p0.2 H.next)).bind fun v13 =>
 (storeA (some 1) v13 v12 p4.2).bind fun p14 =>
 (loadA (some (some 3)) (p0.2 H.next) p14.2).bind fun v15 =>
 (storeA (some 3) (.pointer (some ⟨(H.push p0.1).next, 0, none⟩)) v15 p14.2).bind fun p16 =>
 returnA (consOpt (loadA (some (some 3)) (.pointer (some ⟨(H.push p0.1).next, 0, none⟩)) p16.2) (some [])) p16.2) (
 (loadA (some (some 3)) (p0.2 H.next) p4.2).bind fun v17 =>
 (storeA (some 3) (.pointer (some ⟨(H.push p0.1).next, 0, none⟩)) v17 p4.2).bind fun p18 =>
 returnA (consOpt (loadA (some (some 3)) (.pointer (some ⟨(H.push p0.1).next, 0, none⟩)) p18.2) (some [])) p18.2)
 
theorem tt17_tie (C : CallF) (x0 : Value) (H : AHeap) : execK C Tryz.prog 15 tt17_cuts (tt17_hook C) (codeIn (fnOf Tryz.prog 17)) (argsA [x0] 0) H (retK Tryz.prog (fnOf Tryz.prog 17).results.toList) = tt17 C x0 H := by kernel_rfl
 
theorem tt17_from {prim : Prim} {keep : Keep} {n : Nat} (hp : prim 17 = none) (hk : keep 17 = keepOf tt17_loops tt17_cuts) (x0 : Value) (H : AHeap) (y : Value × AHeap) (h : tt17 (callA Tryz.prog prim keep noHooks n) x0 H = some y) : callA Tryz.prog prim keep noHooks (n + 1) 17 [x0] H = some y :=
   call_from (hook := tt17_hook (callA Tryz.prog prim keep noHooks n)) (m := 15) hk (cutsOk_mem (by kernel_rfl)) hp (by kernel_rfl) (by kernel_rfl) (loops_none (by kernel_rfl)) (by kernel_rfl) ((tt17_tie _ x0 H).trans h)
 
/-! ## nacelle/filter.Take -/
 
noncomputable def tt18_hook (C : CallF) : HookK := fun i => none
 
def tt18_loops : List (Nat × List Nat) := []
 
def tt18_cuts : List (Nat × List Nat) := []
 
 
noncomputable def tt18j10 (C : CallF) (s1 s2 s11 : Value) (H : AHeap) : Option (Value × AHeap) :=
 boolK s11 (
 (loadA (some (some 3)) s1 H).bind fun v1 =>
 (storeA (some 3) s2 v1 H).bind fun p2 =>
 returnA (consOpt (loadA (some (some 3)) s2 p2.2) (consOpt (some (.bool false)) (some []))) p2.2) (
 (fieldPtr (some (2, 1, 3)) s1).bind fun v3 =>
 (loadA (some none) v3 H).bind fun v4 =>
 (binA Tryz.prog .sub 3 (.tmp 14) (.const (.int .i64 1)) v4 (.int .i64 1)).bind fun v5 =>
 (fieldPtr (some (2, 1, 3)) s1).bind fun v6 =>
 (storeA (some 1) v6 v5 H).bind fun p7 =>
 (loadA (some (some 3)) s1 p7.2).bind fun v8 =>
 (storeA (some 3) s2 v8 p7.2).bind fun p9 =>
 returnA (consOpt (loadA (some (some 3)) s2 p9.2) (consOpt (some (.bool true)) (some []))) p9.2)
 
noncomputable def tt18 (C : CallF) (x0 : Value) (H : AHeap) : Option (Value × AHeap) :=
 (newPtr (cellsOf x0)).bind fun p0 =>
 (loadA (some (some 3)) (p0.2 H.next) ((H.push p0.1).push (.cells [(.int .i64 0), (.int .i64 0), (.int .i64 0)]))).bind fun v11 =>
 (C 24 [v11] ((H.push p0.1).push (.cells [(.int .i64 0), (.int .i64 0), (.int .i64 0)]))).bind fun p12 =>
 (unA .not p12.1).bind fun v13 =>
 boolK v13 (
 tt18j10 C (p0.2 H.next) (.pointer (some ⟨(H.push p0.1).next, 0, none⟩)) (.bool true) p12.2) (
 (fieldPtr (some (2, 1, 3)) (p0.2 H.next)).bind fun v14 =>
 (loadA (some none) v14 p12.2).bind fun v15 =>
 (binA Tryz.prog .eql 3 (.tmp 9) (.const (.int .i64 0)) v15 (.int .i64 0)).bind fun v16 =>
 tt18j10 C (p0.2 H.next) (.pointer (some ⟨(H.push p0.1).next, 0, none⟩)) v16 p12.2)
 
theorem tt18_tie (C : CallF) (x0 : Value) (H : AHeap) : execK C Tryz.prog 18 tt18_cuts (tt18_hook C) (codeIn (fnOf Tryz.prog 18)) (argsA [x0] 0) H (retK Tryz.prog (fnOf Tryz.prog 18).results.toList) = tt18 C x0 H := by kernel_rfl
 
theorem tt18_from {prim : Prim} {keep : Keep} {n : Nat} (hp : prim 18 = none) (hk : keep 18 = keepOf tt18_loops tt18_cuts) (x0 : Value) (H : AHeap) (y : Value × AHeap) (h : tt18 (callA Tryz.prog prim keep noHooks n) x0 H = some y) : callA Tryz.prog prim keep noHooks (n + 1) 18 [x0] H = some y :=
   call_from (hook := tt18_hook (callA Tryz.prog prim keep noHooks n)) (m := 18) hk (cutsOk_mem (by kernel_rfl)) hp (by kernel_rfl) (by kernel_rfl) (loops_none (by kernel_rfl)) (by kernel_rfl) ((tt18_tie _ x0 H).trans h)
 
/-! ## (*nacelle/ports.Channel).Send -/
 
noncomputable def tt19_hook (C : CallF) : HookK := fun i => none
 
def tt19_loops : List (Nat × List Nat) := []
 
def tt19_cuts : List (Nat × List Nat) := []
 
 
noncomputable def tt19j53 (C : CallF) (s0 s1 s2 : Value) (H : AHeap) : Option (Value × AHeap) :=
 (nilA s0).bind fun v5 =>
 (fieldPtr (some (1060, 1, 3)) v5).bind fun v6 =>
 (loadA (some none) v6 H).bind fun v7 =>
 (nilA s0).bind fun v8 =>
 (fieldPtr (some (1, 1, 3)) v8).bind fun v9 =>
 (loadA (some none) v9 H).bind fun v10 =>
 (binA Tryz.prog .eql 3 (.tmp 26) (.tmp 30) v7 v10).bind fun v11 =>
 boolK v11 (
 (nilA s0).bind fun v12 =>
 (fieldPtr (some (0, 1, 3)) v12).bind fun v13 =>
 (loadA (some none) v13 H).bind fun v14 =>
 (binA Tryz.prog .eql 3 (.tmp 35) (.const (.int .i64 1)) v14 (.int .i64 1)).bind fun v15 =>
 boolK v15 (
 some ((.int .i64 5), H)) (
 (nilA s0).bind fun v16 =>
 (fieldPtr (some (1061, 1, 23)) v16).bind fun v17 =>
 (loadA (some none) v17 H).bind fun v18 =>
 (nilA s0).bind fun v19 =>
 (fieldPtr (some (1061, 1, 23)) v19).bind fun v20 =>
 (loadA (some none) v20 H).bind fun v21 =>
 (binA Tryz.prog .add 23 (.tmp 45) (.const (.int .u64 1)) v21 (.int .u64 1)).bind fun v22 =>
 (maxOp [v18, v22]).bind fun v23 =>
 (nilA s0).bind fun v24 =>
 (fieldPtr (some (1061, 1, 23)) v24).bind fun v25 =>
 (storeA (some 1) v25 v23 H).bind fun p26 =>
 some ((.int .i64 0), p26.2))) (
 (lenA 2 none s1).bind fun v27 =>
 (buildA (buildT Tryz.prog 102) [(1, v27), (2, s2)]).bind fun v28 =>
 (storeA (some 66) (.pointer (some ⟨H.next, 0, none⟩)) v28 (H.push (.cells (zeroC Tryz.prog 102)))).bind fun p29 =>
 (fieldPtr (some (0, 64, 100)) (.pointer (some ⟨H.next, 0, none⟩))).bind fun v30 =>
 (sliceArr (some ((some 64), 1)) v30 none none none p29.2).bind fun v31 =>
 (copyA (some (1, 1)) v31 s1 p29.2).bind fun p32 =>
 (nilA s0).bind fun v33 =>
 (fieldPtr (some (1059, 1, 3)) v33).bind fun v34 =>
 (loadA (some none) v34 p32.2).bind fun v35 =>
 (nilA s0).bind fun v36 =>
 (fieldPtr (some (1060, 1, 3)) v36).bind fun v37 =>
 (loadA (some none) v37 p32.2).bind fun v38 =>
 (binA Tryz.prog .add 3 (.tmp 62) (.tmp 66) v35 v38).bind fun v39 =>
 (binA Tryz.prog .rem 3 (.tmp 67) (.const (.int .i64 16)) v39 (.int .i64 16)).bind fun v40 =>
 (loadA (some (some 66)) (.pointer (some ⟨H.next, 0, none⟩)) p32.2).bind fun v41 =>
 (nilA s0).bind fun v42 =>
 (fieldPtr (some (3, 1056, 103)) v42).bind fun v43 =>
 (indexPtr (some ((some 16), 66)) v43 v40).bind fun v44 =>
 (storeA (some 66) v44 v41 p32.2).bind fun p45 =>
 (nilA s0).bind fun v46 =>
 (fieldPtr (some (1060, 1, 3)) v46).bind fun v47 =>
 (loadA (some none) v47 p45.2).bind fun v48 =>
 (binA Tryz.prog .add 3 (.tmp 76) (.const (.int .i64 1)) v48 (.int .i64 1)).bind fun v49 =>
 (nilA s0).bind fun v50 =>
 (fieldPtr (some (1060, 1, 3)) v50).bind fun v51 =>
 (storeA (some 1) v51 v49 p45.2).bind fun p52 =>
 some ((.int .i64 0), p52.2))
 
noncomputable def tt19 (C : CallF) (x0 x1 x2 : Value) (H : AHeap) : Option (Value × AHeap) :=
 (lenA 2 none x1).bind fun v0 =>
 (nilA x0).bind fun v1 =>
 (fieldPtr (some (2, 1, 3)) v1).bind fun v2 =>
 (loadA (some none) v2 H).bind fun v3 =>
 (binA Tryz.prog .gtr 3 (.tmp 9) (.tmp 13) v0 v3).bind fun v4 =>
 boolK v4 (
 some ((.int .i64 1), H)) (
 (nilA x0).bind fun v54 =>
 (fieldPtr (some (0, 1, 3)) v54).bind fun v55 =>
 (loadA (some none) v55 H).bind fun v56 =>
 (binA Tryz.prog .eql 3 (.tmp 18) (.const (.int .i64 0)) v56 (.int .i64 0)).bind fun v57 =>
 boolK v57 (
 (nilA x0).bind fun v58 =>
 (fieldPtr (some (1060, 1, 3)) v58).bind fun v59 =>
 (storeA (some 1) v59 (.int .i64 0) H).bind fun p60 =>
 tt19j53 C x0 x1 x2 p60.2) (
 tt19j53 C x0 x1 x2 H))
 
theorem tt19_tie (C : CallF) (x0 x1 x2 : Value) (H : AHeap) : execK C Tryz.prog 80 tt19_cuts (tt19_hook C) (codeIn (fnOf Tryz.prog 19)) (argsA [x0, x1, x2] 0) H (retK Tryz.prog (fnOf Tryz.prog 19).results.toList) = tt19 C x0 x1 x2 H := by kernel_rfl
 
theorem tt19_from {prim : Prim} {keep : Keep} {n : Nat} (hp : prim 19 = none) (hk : keep 19 = keepOf tt19_loops tt19_cuts) (x0 x1 x2 : Value) (H : AHeap) (y : Value × AHeap) (h : tt19 (callA Tryz.prog prim keep noHooks n) x0 x1 x2 H = some y) : callA Tryz.prog prim keep noHooks (n + 1) 19 [x0, x1, x2] H = some y :=
   call_from (hook := tt19_hook (callA Tryz.prog prim keep noHooks n)) (m := 80) hk (cutsOk_mem (by kernel_rfl)) hp (by kernel_rfl) (by kernel_rfl) (loops_none (by kernel_rfl)) (by kernel_rfl) ((tt19_tie _ x0 x1 x2 H).trans h)
 
/-! ## (*nacelle/ports.Channel).Clone -/
 
noncomputable def tt20_hook (C : CallF) : HookK := fun i => none
 
def tt20_loops : List (Nat × List Nat) := []
 
def tt20_cuts : List (Nat × List Nat) := []
 
 
noncomputable def tt20 (C : CallF) (x0 : Value) (H : AHeap) : Option (Value × AHeap) :=
 (nilA x0).bind fun v0 =>
 (loadA (some (some 1062)) v0 H).bind fun v1 =>
 (storeA (some 1062) (.pointer (some ⟨H.next, 0, none⟩)) v1 (H.push (.cells (zeroC Tryz.prog 105)))).bind fun p2 =>
 some ((.pointer (some ⟨H.next, 0, none⟩)), p2.2)
 
theorem tt20_tie (C : CallF) (x0 : Value) (H : AHeap) : execK C Tryz.prog 7 tt20_cuts (tt20_hook C) (codeIn (fnOf Tryz.prog 20)) (argsA [x0] 0) H (retK Tryz.prog (fnOf Tryz.prog 20).results.toList) = tt20 C x0 H := by kernel_rfl
 
theorem tt20_from {prim : Prim} {keep : Keep} {n : Nat} (hp : prim 20 = none) (hk : keep 20 = keepOf tt20_loops tt20_cuts) (x0 : Value) (H : AHeap) (y : Value × AHeap) (h : tt20 (callA Tryz.prog prim keep noHooks n) x0 H = some y) : callA Tryz.prog prim keep noHooks (n + 1) 20 [x0] H = some y :=
   call_from (hook := tt20_hook (callA Tryz.prog prim keep noHooks n)) (m := 7) hk (cutsOk_mem (by kernel_rfl)) hp (by kernel_rfl) (by kernel_rfl) (loops_none (by kernel_rfl)) (by kernel_rfl) ((tt20_tie _ x0 H).trans h)
 
/-! ## (*nacelle/ports.Channel).Receive -/
 
noncomputable def tt21_hook (C : CallF) : HookK := fun i => none
 
def tt21_loops : List (Nat × List Nat) := []
 
def tt21_cuts : List (Nat × List Nat) := []
 
 
noncomputable def tt21j33 (C : CallF) (s1 s7 : Value) (H : AHeap) : Option (Value × AHeap) :=
 (fieldPtr (some (65, 1, 23)) s7).bind fun v17 =>
 (loadA (some none) v17 H).bind fun v18 =>
 (binA Tryz.prog .gtr 23 (.tmp 53) (.tmp 55) s1 v18).bind fun v19 =>
 boolK v19 (
 (fieldPtr (some (65, 1, 23)) s7).bind fun v20 =>
 (loadA (some none) v20 H).bind fun v21 =>
 (binA Tryz.prog .sub 23 (.tmp 57) (.tmp 59) s1 v21).bind fun v22 =>
 (fieldPtr (some (0, 64, 100)) s7).bind fun v23 =>
 (fieldPtr (some (64, 1, 3)) s7).bind fun v24 =>
 (loadA (some none) v24 H).bind fun v25 =>
 (sliceArr (some ((some 64), 1)) v23 none (some v25) none H).bind fun v26 =>
 (appendA (some (1, 1)) (.slice none 0 0) v26 H).bind fun p27 =>
 some (.tuple [p27.1, v22, (.int .i64 0)].toArray, p27.2)) (
 (fieldPtr (some (0, 64, 100)) s7).bind fun v28 =>
 (fieldPtr (some (64, 1, 3)) s7).bind fun v29 =>
 (loadA (some none) v29 H).bind fun v30 =>
 (sliceArr (some ((some 64), 1)) v28 none (some v30) none H).bind fun v31 =>
 (appendA (some (1, 1)) (.slice none 0 0) v31 H).bind fun p32 =>
 some (.tuple [p32.1, (.int .u64 0), (.int .i64 0)].toArray, p32.2))
 
noncomputable def tt21 (C : CallF) (x0 x1 : Value) (H : AHeap) : Option (Value × AHeap) :=
 (nilA x0).bind fun v0 =>
 (fieldPtr (some (1060, 1, 3)) v0).bind fun v1 =>
 (loadA (some none) v1 H).bind fun v2 =>
 (binA Tryz.prog .eql 3 (.tmp 12) (.const (.int .i64 0)) v2 (.int .i64 0)).bind fun v3 =>
 boolK v3 (
 some (.tuple [(.slice none 0 0), (.int .u64 0), (.int .i64 6)].toArray, H)) (
 (nilA x0).bind fun v4 =>
 (fieldPtr (some (1059, 1, 3)) v4).bind fun v5 =>
 (loadA (some none) v5 H).bind fun v6 =>
 (nilA x0).bind fun v7 =>
 (fieldPtr (some (3, 1056, 103)) v7).bind fun v8 =>
 (indexPtr (some ((some 16), 66)) v8 v6).bind fun v9 =>
 (loadA (some (some 66)) v9 H).bind fun v10 =>
 (storeA (some 66) (.pointer (some ⟨H.next, 0, none⟩)) v10 (H.push (.cells (zeroC Tryz.prog 102)))).bind fun p11 =>
 (nilA x0).bind fun v34 =>
 (fieldPtr (some (0, 1, 3)) v34).bind fun v35 =>
 (loadA (some none) v35 p11.2).bind fun v36 =>
 (binA Tryz.prog .neq 3 (.tmp 26) (.const (.int .i64 0)) v36 (.int .i64 0)).bind fun v37 =>
 boolK v37 (
 (nilA x0).bind fun v38 =>
 (fieldPtr (some (1059, 1, 3)) v38).bind fun v39 =>
 (loadA (some none) v39 p11.2).bind fun v40 =>
 (buildA (buildT Tryz.prog 102) []).bind fun v41 =>
 (nilA x0).bind fun v42 =>
 (fieldPtr (some (3, 1056, 103)) v42).bind fun v43 =>
 (indexPtr (some ((some 16), 66)) v43 v40).bind fun v44 =>
 (storeA (some 66) v44 v41 p11.2).bind fun p45 =>
 (nilA x0).bind fun v46 =>
 (fieldPtr (some (1059, 1, 3)) v46).bind fun v47 =>
 (loadA (some none) v47 p45.2).bind fun v48 =>
 (binA Tryz.prog .add 3 (.tmp 41) (.const (.int .i64 1)) v48 (.int .i64 1)).bind fun v49 =>
 (binA Tryz.prog .rem 3 (.tmp 42) (.const (.int .i64 16)) v49 (.int .i64 16)).bind fun v50 =>
 (nilA x0).bind fun v51 =>
 (fieldPtr (some (1059, 1, 3)) v51).bind fun v52 =>
 (storeA (some 1) v52 v50 p45.2).bind fun p53 =>
 (nilA x0).bind fun v54 =>
 (fieldPtr (some (1060, 1, 3)) v54).bind fun v55 =>
 (loadA (some none) v55 p53.2).bind fun v56 =>
 (binA Tryz.prog .sub 3 (.tmp 49) (.const (.int .i64 1)) v56 (.int .i64 1)).bind fun v57 =>
 (nilA x0).bind fun v58 =>
 (fieldPtr (some (1060, 1, 3)) v58).bind fun v59 =>
 (storeA (some 1) v59 v57 p53.2).bind fun p60 =>
 tt21j33 C x1 (.pointer (some ⟨H.next, 0, none⟩)) p60.2) (
 tt21j33 C x1 (.pointer (some ⟨H.next, 0, none⟩)) p11.2))
 
theorem tt21_tie (C : CallF) (x0 x1 : Value) (H : AHeap) : execK C Tryz.prog 67 tt21_cuts (tt21_hook C) (codeIn (fnOf Tryz.prog 21)) (argsA [x0, x1] 0) H (retK Tryz.prog (fnOf Tryz.prog 21).results.toList) = tt21 C x0 x1 H := by kernel_rfl
 
theorem tt21_from {prim : Prim} {keep : Keep} {n : Nat} (hp : prim 21 = none) (hk : keep 21 = keepOf tt21_loops tt21_cuts) (x0 x1 : Value) (H : AHeap) (y : Value × AHeap) (h : tt21 (callA Tryz.prog prim keep noHooks n) x0 x1 H = some y) : callA Tryz.prog prim keep noHooks (n + 1) 21 [x0, x1] H = some y :=
   call_from (hook := tt21_hook (callA Tryz.prog prim keep noHooks n)) (m := 67) hk (cutsOk_mem (by kernel_rfl)) hp (by kernel_rfl) (by kernel_rfl) (loops_none (by kernel_rfl)) (by kernel_rfl) ((tt21_tie _ x0 x1 H).trans h)
 
/-! ## (*nacelle/ports.Channel).Waiting -/
 
noncomputable def tt22_hook (C : CallF) : HookK := fun i => none
 
def tt22_loops : List (Nat × List Nat) := []
 
def tt22_cuts : List (Nat × List Nat) := []
 
 
noncomputable def tt22 (C : CallF) (x0 : Value) (H : AHeap) : Option (Value × AHeap) :=
 (nilA x0).bind fun v0 =>
 (fieldPtr (some (1060, 1, 3)) v0).bind fun v1 =>
 (loadA (some none) v1 H).bind fun v2 =>
 some (v2, H)
 
theorem tt22_tie (C : CallF) (x0 : Value) (H : AHeap) : execK C Tryz.prog 7 tt22_cuts (tt22_hook C) (codeIn (fnOf Tryz.prog 22)) (argsA [x0] 0) H (retK Tryz.prog (fnOf Tryz.prog 22).results.toList) = tt22 C x0 H := by kernel_rfl
 
theorem tt22_from {prim : Prim} {keep : Keep} {n : Nat} (hp : prim 22 = none) (hk : keep 22 = keepOf tt22_loops tt22_cuts) (x0 : Value) (H : AHeap) (y : Value × AHeap) (h : tt22 (callA Tryz.prog prim keep noHooks n) x0 H = some y) : callA Tryz.prog prim keep noHooks (n + 1) 22 [x0] H = some y :=
   call_from (hook := tt22_hook (callA Tryz.prog prim keep noHooks n)) (m := 7) hk (cutsOk_mem (by kernel_rfl)) hp (by kernel_rfl) (by kernel_rfl) (loops_none (by kernel_rfl)) (by kernel_rfl) ((tt22_tie _ x0 H).trans h)
 
/-! ## (*nacelle/ports.Channel).Lost -/
 
noncomputable def tt23_hook (C : CallF) : HookK := fun i => none
 
def tt23_loops : List (Nat × List Nat) := []
 
def tt23_cuts : List (Nat × List Nat) := []
 
 
noncomputable def tt23 (C : CallF) (x0 : Value) (H : AHeap) : Option (Value × AHeap) :=
 (nilA x0).bind fun v0 =>
 (fieldPtr (some (1061, 1, 23)) v0).bind fun v1 =>
 (loadA (some none) v1 H).bind fun v2 =>
 some (v2, H)
 
theorem tt23_tie (C : CallF) (x0 : Value) (H : AHeap) : execK C Tryz.prog 7 tt23_cuts (tt23_hook C) (codeIn (fnOf Tryz.prog 23)) (argsA [x0] 0) H (retK Tryz.prog (fnOf Tryz.prog 23).results.toList) = tt23 C x0 H := by kernel_rfl
 
theorem tt23_from {prim : Prim} {keep : Keep} {n : Nat} (hp : prim 23 = none) (hk : keep 23 = keepOf tt23_loops tt23_cuts) (x0 : Value) (H : AHeap) (y : Value × AHeap) (h : tt23 (callA Tryz.prog prim keep noHooks n) x0 H = some y) : callA Tryz.prog prim keep noHooks (n + 1) 23 [x0] H = some y :=
   call_from (hook := tt23_hook (callA Tryz.prog prim keep noHooks n)) (m := 7) hk (cutsOk_mem (by kernel_rfl)) hp (by kernel_rfl) (by kernel_rfl) (loops_none (by kernel_rfl)) (by kernel_rfl) ((tt23_tie _ x0 H).trans h)
 
/-! ## nacelle/filter.May -/
 
noncomputable def tt24_hook (C : CallF) : HookK := fun i => none
 
def tt24_loops : List (Nat × List Nat) := []
 
def tt24_cuts : List (Nat × List Nat) := []
 
 
noncomputable def tt24 (C : CallF) (x0 : Value) (H : AHeap) : Option (Value × AHeap) :=
 (newPtr (cellsOf x0)).bind fun p0 =>
 (fieldPtr (some (0, 1, 3)) (p0.2 H.next)).bind fun v1 =>
 (loadA (some none) v1 (H.push p0.1)).bind fun v2 =>
 (binA Tryz.prog .geq 3 (.tmp 4) (.const (.int .i64 0)) v2 (.int .i64 0)).bind fun v3 =>
 boolK v3 (
 (fieldPtr (some (0, 1, 3)) (p0.2 H.next)).bind fun v4 =>
 (loadA (some none) v4 (H.push p0.1)).bind fun v5 =>
 (fieldPtr (some (1, 1, 3)) (p0.2 H.next)).bind fun v6 =>
 (loadA (some none) v6 (H.push p0.1)).bind fun v7 =>
 (binA Tryz.prog .leq 3 (.tmp 8) (.tmp 10) v5 v7).bind fun v8 =>
 boolK v8 (
 (fieldPtr (some (1, 1, 3)) (p0.2 H.next)).bind fun v9 =>
 (loadA (some none) v9 (H.push p0.1)).bind fun v10 =>
 (binA Tryz.prog .leq 3 (.tmp 15) (.const (.int .i64 64)) v10 (.int .i64 64)).bind fun v11 =>
 boolK v11 (
 (fieldPtr (some (2, 1, 3)) (p0.2 H.next)).bind fun v12 =>
 (loadA (some none) v12 (H.push p0.1)).bind fun v13 =>
 (binA Tryz.prog .geq 3 (.tmp 20) (.const (.int .i64 0)) v13 (.int .i64 0)).bind fun v14 =>
 boolK v14 (
 (fieldPtr (some (2, 1, 3)) (p0.2 H.next)).bind fun v15 =>
 (loadA (some none) v15 (H.push p0.1)).bind fun v16 =>
 (fieldPtr (some (1, 1, 3)) (p0.2 H.next)).bind fun v17 =>
 (loadA (some none) v17 (H.push p0.1)).bind fun v18 =>
 (binA Tryz.prog .leq 3 (.tmp 25) (.tmp 27) v16 v18).bind fun v19 =>
 some (v19, (H.push p0.1))) (
 some ((.bool false), (H.push p0.1)))) (
 some ((.bool false), (H.push p0.1)))) (
 some ((.bool false), (H.push p0.1)))) (
 some ((.bool false), (H.push p0.1)))
 
theorem tt24_tie (C : CallF) (x0 : Value) (H : AHeap) : execK C Tryz.prog 30 tt24_cuts (tt24_hook C) (codeIn (fnOf Tryz.prog 24)) (argsA [x0] 0) H (retK Tryz.prog (fnOf Tryz.prog 24).results.toList) = tt24 C x0 H := by kernel_rfl
 
theorem tt24_from {prim : Prim} {keep : Keep} {n : Nat} (hp : prim 24 = none) (hk : keep 24 = keepOf tt24_loops tt24_cuts) (x0 : Value) (H : AHeap) (y : Value × AHeap) (h : tt24 (callA Tryz.prog prim keep noHooks n) x0 H = some y) : callA Tryz.prog prim keep noHooks (n + 1) 24 [x0] H = some y :=
   call_from (hook := tt24_hook (callA Tryz.prog prim keep noHooks n)) (m := 30) hk (cutsOk_mem (by kernel_rfl)) hp (by kernel_rfl) (by kernel_rfl) (loops_none (by kernel_rfl)) (by kernel_rfl) ((tt24_tie _ x0 H).trans h)
 
/-! ## (*nacelle/ports.Channel).Same -/
 
noncomputable def tt25l4 (C : CallF) (s0 s1 s4 s62 s63 : Value) (H : AHeap) : Option (Nat × List Value × AHeap) :=
 (binA Tryz.prog .lss 3 (.tmp 63) (.tmp 62) s63 s62).bind fun v3 =>
 boolK v3 (
 (nilA s0).bind fun v4 =>
 (fieldPtr (some (1059, 1, 3)) v4).bind fun v5 =>
 (loadA (some none) v5 H).bind fun v6 =>
 (binA Tryz.prog .add 3 (.tmp 70) (.tmp 71) v6 s63).bind fun v7 =>
 (binA Tryz.prog .rem 3 (.tmp 72) (.const (.int .i64 16)) v7 (.int .i64 16)).bind fun v8 =>
 (nilA s0).bind fun v9 =>
 (fieldPtr (some (3, 1056, 103)) v9).bind fun v10 =>
 (indexPtr (some ((some 16), 66)) v10 v8).bind fun v11 =>
 (loadA (some (some 66)) v11 H).bind fun v12 =>
 (nilA s1).bind fun v13 =>
 (fieldPtr (some (1059, 1, 3)) v13).bind fun v14 =>
 (loadA (some none) v14 H).bind fun v15 =>
 (binA Tryz.prog .add 3 (.tmp 82) (.tmp 83) v15 s63).bind fun v16 =>
 (binA Tryz.prog .rem 3 (.tmp 84) (.const (.int .i64 16)) v16 (.int .i64 16)).bind fun v17 =>
 (nilA s1).bind fun v18 =>
 (fieldPtr (some (3, 1056, 103)) v18).bind fun v19 =>
 (indexPtr (some ((some 16), 66)) v19 v17).bind fun v20 =>
 (loadA (some (some 66)) v20 H).bind fun v21 =>
 (binA Tryz.prog .neq 102 (.tmp 77) (.tmp 89) v12 v21).bind fun v22 =>
 boolK v22 (
 some (2, [s0, s1, (.bool false), s62, s63], H)) (
 (binA Tryz.prog .add 3 (.tmp 63) (.const (.int .i64 1)) s63 (.int .i64 1)).bind fun v23 =>
 some (0, [s0, s1, s4, s62, v23], H))) (
 some (1, [s0, s1, s4, s62, s63], H))
 
noncomputable def tt25l4b (C : CallF) (vs : List Value) (H : AHeap) : Option (Nat × List Value × AHeap) := tt25l4 C (getT vs 0) (getT vs 1) (getT vs 2) (getT vs 3) (getT vs 4) H
 
noncomputable def tt25_hook (C : CallF) : HookK := fun i => match Nat.beq i 4 with
   | true => some ⟨[.exit 0, .ret], [0, 1, 4, 62, 63], tt25l4b C⟩
   | false => none
 
def tt25_loops : List (Nat × List Nat) := [(4, [0, 1, 4, 62, 63])]
 
def tt25_cuts : List (Nat × List Nat) := []
 
theorem tt25l4_tie (C : CallF) (vs : List Value) (H : AHeap) : execK C Tryz.prog 92 tt25_cuts (tt25_hook C) (loopN (codeIn (fnOf Tryz.prog 25)) 0) (frameA vs [0, 1, 4, 62, 63] 0) H (finK [.exit 0, .ret] [0, 1, 4, 62, 63]) = tt25l4b C vs H := by kernel_rfl
theorem tt25l4_ok (C : CallF) : LoopOk C Tryz.prog 92 tt25_loops tt25_cuts (tt25_hook C) (loopN (codeIn (fnOf Tryz.prog 25)) 0) :=
   loop_ok (cutsOk_mem (by kernel_rfl)) ⟨[.exit 0, .ret], [0, 1, 4, 62, 63], tt25l4b C⟩ (by kernel_rfl) (by kernel_rfl) (by kernel_rfl) (loops_none (by kernel_rfl)) fun vs H y h => (tt25l4_tie C vs H).trans h
 
noncomputable def tt25 (C : CallF) (x0 x1 : Value) (H : AHeap) : Option (Value × AHeap) :=
 (nilA x0).bind fun v27 =>
 (fieldPtr (some (0, 1, 3)) v27).bind fun v28 =>
 (loadA (some none) v28 H).bind fun v29 =>
 (nilA x1).bind fun v30 =>
 (fieldPtr (some (0, 1, 3)) v30).bind fun v31 =>
 (loadA (some none) v31 H).bind fun v32 =>
 (binA Tryz.prog .neq 3 (.tmp 9) (.tmp 13) v29 v32).bind fun v33 =>
 boolK v33 (
 some ((.bool false), H)) (
 (nilA x0).bind fun v34 =>
 (fieldPtr (some (1, 1, 3)) v34).bind fun v35 =>
 (loadA (some none) v35 H).bind fun v36 =>
 (nilA x1).bind fun v37 =>
 (fieldPtr (some (1, 1, 3)) v37).bind fun v38 =>
 (loadA (some none) v38 H).bind fun v39 =>
 (binA Tryz.prog .neq 3 (.tmp 19) (.tmp 23) v36 v39).bind fun v40 =>
 boolK v40 (
 some ((.bool false), H)) (
 (nilA x0).bind fun v41 =>
 (fieldPtr (some (2, 1, 3)) v41).bind fun v42 =>
 (loadA (some none) v42 H).bind fun v43 =>
 (nilA x1).bind fun v44 =>
 (fieldPtr (some (2, 1, 3)) v44).bind fun v45 =>
 (loadA (some none) v45 H).bind fun v46 =>
 (binA Tryz.prog .neq 3 (.tmp 30) (.tmp 34) v43 v46).bind fun v47 =>
 boolK v47 (
 some ((.bool false), H)) (
 (nilA x0).bind fun v48 =>
 (fieldPtr (some (1060, 1, 3)) v48).bind fun v49 =>
 (loadA (some none) v49 H).bind fun v50 =>
 (nilA x1).bind fun v51 =>
 (fieldPtr (some (1060, 1, 3)) v51).bind fun v52 =>
 (loadA (some none) v52 H).bind fun v53 =>
 (binA Tryz.prog .neq 3 (.tmp 41) (.tmp 45) v50 v53).bind fun v54 =>
 boolK v54 (
 some ((.bool false), H)) (
 (nilA x0).bind fun v55 =>
 (fieldPtr (some (1061, 1, 23)) v55).bind fun v56 =>
 (loadA (some none) v56 H).bind fun v57 =>
 (nilA x1).bind fun v58 =>
 (fieldPtr (some (1061, 1, 23)) v58).bind fun v59 =>
 (loadA (some none) v59 H).bind fun v60 =>
 (binA Tryz.prog .neq 23 (.tmp 52) (.tmp 56) v57 v60).bind fun v61 =>
 boolK v61 (
 some ((.bool false), H)) (
 (nilA x0).bind fun v62 =>
 (fieldPtr (some (1060, 1, 3)) v62).bind fun v63 =>
 (loadA (some none) v63 H).bind fun v64 =>
 (iterL (tt25l4b C) rounds [x0, x1, (.bool false), v64, (.int .i64 0)] H).bind fun p65 =>
 natK p65.1 (
 some ((.bool true), p65.2.2)) fun m66 =>
 natK m66 (
 some ((getT p65.2.1 2), p65.2.2)) fun m67 =>
 none)))))
 
theorem tt25_tie (C : CallF) (x0 x1 : Value) (H : AHeap) : execK C Tryz.prog 92 tt25_cuts (tt25_hook C) (codeIn (fnOf Tryz.prog 25)) (argsA [x0, x1] 0) H (retK Tryz.prog (fnOf Tryz.prog 25).results.toList) = tt25 C x0 x1 H := by kernel_rfl
 
theorem tt25_from {prim : Prim} {keep : Keep} {n : Nat} (hp : prim 25 = none) (hk : keep 25 = keepOf tt25_loops tt25_cuts) (x0 x1 : Value) (H : AHeap) (y : Value × AHeap) (h : tt25 (callA Tryz.prog prim keep noHooks n) x0 x1 H = some y) : callA Tryz.prog prim keep noHooks (n + 1) 25 [x0, x1] H = some y :=
   call_from (hook := tt25_hook (callA Tryz.prog prim keep noHooks n)) (m := 92) hk (cutsOk_mem (by kernel_rfl)) hp (by kernel_rfl) (by kernel_rfl) (loops_all (l := [loopN (codeIn (fnOf Tryz.prog 25)) 0]) (by kernel_rfl) (all_cons (tt25l4_ok _) all_nil)) (by kernel_rfl) ((tt25_tie _ x0 x1 H).trans h)
 
end Go.Abs
