/- printed by Gen.lean -/
import Derived.Test.YtbomdnmkhegfnaaGreatDoorProg
import Derived.KernelRfl
import Derived.Test.YtbomdnmkhegfnaaGreatDoorAbsTwo
set_option linter.all false
namespace Go.Abs
open Go.Proofs
/-! ## nacelle/nacelletop.sparOf -/
 
noncomputable def tt5_hook (C : CallF) : HookK := fun i => none
 
def tt5_loops : List (Nat × List Nat) := []
 
def tt5_cuts : List (Nat × List Nat) := []
 
 
noncomputable def tt5 (C : CallF) (x0 x1 : Value) (H : AHeap) : Option (Value × AHeap) :=
 (binA Tryz.prog .lss 3 (.tmp 5) (.const (.int .i64 0)) x0 (.int .i64 0)).bind fun v1 =>
 boolK v1 (
 (binA Tryz.prog .add 3 (.tmp 7) (.const (.int .i64 1)) x0 (.int .i64 1)).bind fun v2 =>
 (unA .neg v2).bind fun v3 =>
 (binA Tryz.prog .rem 3 (.tmp 10) (.tmp 11) v3 x1).bind fun v4 =>
 some (v4, H)) (
 (binA Tryz.prog .rem 3 (.tmp 10) (.tmp 11) x0 x1).bind fun v5 =>
 some (v5, H))
 
theorem tt5_tie (C : CallF) (x0 x1 : Value) (H : AHeap) : execK C Tryz.prog 13 tt5_cuts (tt5_hook C) (codeIn (fnOf Tryz.prog 5)) (argsA [x0, x1] 0) H (retK Tryz.prog (fnOf Tryz.prog 5).results.toList) = tt5 C x0 x1 H := by kernel_rfl
 
theorem tt5_from {prim : Prim} {keep : Keep} {n : Nat} (hp : prim 5 = none) (hk : keep 5 = keepOf tt5_loops tt5_cuts) (x0 x1 : Value) (H : AHeap) (y : Value × AHeap) (h : tt5 (callA Tryz.prog prim keep noHooks n) x0 x1 H = some y) : callA Tryz.prog prim keep noHooks (n + 1) 5 [x0, x1] H = some y :=
   call_from (hook := tt5_hook (callA Tryz.prog prim keep noHooks n)) (m := 13) hk (cutsOk_mem (by kernel_rfl)) hp (by kernel_rfl) (by kernel_rfl) (loops_none (by kernel_rfl)) (by kernel_rfl) ((tt5_tie _ x0 x1 H).trans h)
 
/-! ## nacelle/table.Check -/
 
noncomputable def tt6j21 (C : CallF) (s1 s2 s3 s4 s5 s22 s23 s24 s45 : Value) (H : AHeap) : Option (Nat × List Value × AHeap) :=
 boolK s45 (
 (C 33 [(.int .i64 4), s4] H).bind fun p10 =>
 some (2, [s1, p10.1, s3, s22, s23, s24], p10.2)) (
 (fieldPtr (some (1, 1, 3)) s5).bind fun v11 =>
 (loadA (some none) v11 H).bind fun v12 =>
 (binA Tryz.prog .lss 3 (.tmp 70) (.tmp 71) v12 s3).bind fun v13 =>
 boolK v13 (
 (C 33 [(.int .i64 3), s4] H).bind fun p14 =>
 some (2, [s1, p14.1, s3, s22, s23, s24], p14.2)) (
 (fieldPtr (some (1, 1, 3)) s5).bind fun v15 =>
 (loadA (some none) v15 H).bind fun v16 =>
 (fieldPtr (some (2, 1, 3)) s5).bind fun v17 =>
 (loadA (some none) v17 H).bind fun v18 =>
 (binA Tryz.prog .add 3 (.tmp 76) (.tmp 78) v16 v18).bind fun v19 =>
 (binA Tryz.prog .add 3 (.tmp 24) (.const (.int .i64 1)) s24 (.int .i64 1)).bind fun v20 =>
 some (0, [s1, s2, v19, s22, s23, v20], H)))
 
noncomputable def tt6j38 (C : CallF) (s1 s2 s3 s4 s5 s22 s23 s24 s29 : Value) (H : AHeap) : Option (Nat × List Value × AHeap) :=
 boolK s29 (
 (C 33 [(.int .i64 1), s4] H).bind fun p9 =>
 some (2, [s1, p9.1, s3, s22, s23, s24], p9.2)) (
 (fieldPtr (some (1, 1, 3)) s5).bind fun v22 =>
 (loadA (some none) v22 H).bind fun v23 =>
 (binA Tryz.prog .lss 3 (.tmp 47) (.const (.int .i64 0)) v23 (.int .i64 0)).bind fun v24 =>
 boolK v24 (
 tt6j21 C s1 s2 s3 s4 s5 s22 s23 s24 (.bool true) H) (
 (fieldPtr (some (2, 1, 3)) s5).bind fun v25 =>
 (loadA (some none) v25 H).bind fun v26 =>
 (fieldPtr (some (0, 1, 3)) s1).bind fun v27 =>
 (loadA (some none) v27 H).bind fun v28 =>
 (binA Tryz.prog .gtr 3 (.tmp 51) (.tmp 53) v26 v28).bind fun v29 =>
 boolK v29 (
 tt6j21 C s1 s2 s3 s4 s5 s22 s23 s24 (.bool true) H) (
 (fieldPtr (some (1, 1, 3)) s5).bind fun v30 =>
 (loadA (some none) v30 H).bind fun v31 =>
 (fieldPtr (some (0, 1, 3)) s1).bind fun v32 =>
 (loadA (some none) v32 H).bind fun v33 =>
 (fieldPtr (some (2, 1, 3)) s5).bind fun v34 =>
 (loadA (some none) v34 H).bind fun v35 =>
 (binA Tryz.prog .sub 3 (.tmp 60) (.tmp 62) v33 v35).bind fun v36 =>
 (binA Tryz.prog .gtr 3 (.tmp 58) (.tmp 63) v31 v36).bind fun v37 =>
 tt6j21 C s1 s2 s3 s4 s5 s22 s23 s24 v37 H)))
 
noncomputable def tt6l5 (C : CallF) (s1 s2 s3 s22 s23 s24 : Value) (H : AHeap) : Option (Nat × List Value × AHeap) :=
 (binA Tryz.prog .lss 3 (.tmp 24) (.tmp 23) s24 s23).bind fun v5 =>
 boolK v5 (
 (indexPtr (some (none, 3)) s22 s24).bind fun v6 =>
 (loadA (some (some 3)) v6 H).bind fun v7 =>
 (storeA (some 3) (.pointer (some ⟨H.next, 0, none⟩)) v7 (H.push (.cells [(.int .i64 0), (.int .i64 0), (.int .i64 0)]))).bind fun p8 =>
 (fieldPtr (some (0, 1, 3)) (.pointer (some ⟨H.next, 0, none⟩))).bind fun v39 =>
 (loadA (some none) v39 p8.2).bind fun v40 =>
 (binA Tryz.prog .lss 3 (.tmp 31) (.const (.int .i64 0)) v40 (.int .i64 0)).bind fun v41 =>
 boolK v41 (
 tt6j38 C s1 s2 s3 s24 (.pointer (some ⟨H.next, 0, none⟩)) s22 s23 s24 (.bool true) p8.2) (
 (fieldPtr (some (0, 1, 3)) (.pointer (some ⟨H.next, 0, none⟩))).bind fun v42 =>
 (loadA (some none) v42 p8.2).bind fun v43 =>
 (binA Tryz.prog .geq 3 (.tmp 35) (.const (.int .i64 8)) v43 (.int .i64 8)).bind fun v44 =>
 boolK v44 (
 tt6j38 C s1 s2 s3 s24 (.pointer (some ⟨H.next, 0, none⟩)) s22 s23 s24 (.bool true) p8.2) (
 (fieldPtr (some (2, 1, 3)) (.pointer (some ⟨H.next, 0, none⟩))).bind fun v45 =>
 (loadA (some none) v45 p8.2).bind fun v46 =>
 (binA Tryz.prog .lss 3 (.tmp 40) (.const (.int .i64 1)) v46 (.int .i64 1)).bind fun v47 =>
 tt6j38 C s1 s2 s3 s24 (.pointer (some ⟨H.next, 0, none⟩)) s22 s23 s24 v47 p8.2))) (
 some (1, [s1, s2, s3, s22, s23, s24], H))
 
noncomputable def tt6l5b (C : CallF) (vs : List Value) (H : AHeap) : Option (Nat × List Value × AHeap) := tt6l5 C (getT vs 0) (getT vs 1) (getT vs 2) (getT vs 3) (getT vs 4) (getT vs 5) H
 
noncomputable def tt6_hook (C : CallF) : HookK := fun i => match Nat.beq i 5 with
   | true => some ⟨[.exit 0, .ret], [1, 2, 3, 22, 23, 24], tt6l5b C⟩
   | false => none
 
def tt6_loops : List (Nat × List Nat) := [(5, [1, 2, 3, 22, 23, 24])]
 
def tt6_cuts : List (Nat × List Nat) := []
 
theorem tt6l5_tie (C : CallF) (vs : List Value) (H : AHeap) : execK C Tryz.prog 81 tt6_cuts (tt6_hook C) (loopN (codeIn (fnOf Tryz.prog 6)) 0) (frameA vs [1, 2, 3, 22, 23, 24] 0) H (finK [.exit 0, .ret] [1, 2, 3, 22, 23, 24]) = tt6l5b C vs H := by kernel_rfl
theorem tt6l5_ok (C : CallF) : LoopOk C Tryz.prog 81 tt6_loops tt6_cuts (tt6_hook C) (loopN (codeIn (fnOf Tryz.prog 6)) 0) :=
   loop_ok (cutsOk_mem (by kernel_rfl)) ⟨[.exit 0, .ret], [1, 2, 3, 22, 23, 24], tt6l5b C⟩ (by kernel_rfl) (by kernel_rfl) (by kernel_rfl) (loops_none (by kernel_rfl)) fun vs H y h => (tt6l5_tie C vs H).trans h
 
noncomputable def tt6 (C : CallF) (x0 : Value) (H : AHeap) : Option (Value × AHeap) :=
 (newPtr (cellsOf x0)).bind fun p0 =>
 (fieldPtr (some (0, 1, 3)) (p0.2 H.next)).bind fun v51 =>
 (loadA (some none) v51 (H.push p0.1)).bind fun v52 =>
 (binA Tryz.prog .lss 3 (.tmp 7) (.const (.int .i64 1)) v52 (.int .i64 1)).bind fun v53 =>
 boolK v53 (
 (C 33 [(.int .i64 1), (.int .i64 0)] (H.push p0.1)).bind fun p54 =>
 some (p54.1, p54.2)) (
 (fieldPtr (some (0, 1, 3)) (p0.2 H.next)).bind fun v55 =>
 (loadA (some none) v55 (H.push p0.1)).bind fun v56 =>
 (binA Tryz.prog .gtr 3 (.tmp 11) (.const (.int .i64 256)) v56 (.int .i64 256)).bind fun v57 =>
 boolK v57 (
 (C 33 [(.int .i64 1), (.int .i64 0)] (H.push p0.1)).bind fun p58 =>
 some (p58.1, p58.2)) (
 (fieldPtr (some (1, 1, 25)) (p0.2 H.next)).bind fun v59 =>
 (loadA (some none) v59 (H.push p0.1)).bind fun v60 =>
 (lenA 2 none v60).bind fun v61 =>
 (binA Tryz.prog .gtr 3 (.tmp 17) (.const (.int .i64 32)) v61 (.int .i64 32)).bind fun v62 =>
 boolK v62 (
 (C 33 [(.int .i64 1), (.int .i64 0)] (H.push p0.1)).bind fun p63 =>
 some (p63.1, p63.2)) (
 (fieldPtr (some (1, 1, 25)) (p0.2 H.next)).bind fun v64 =>
 (loadA (some none) v64 (H.push p0.1)).bind fun v65 =>
 (lenA 2 none v65).bind fun v66 =>
 (iterL (tt6l5b C) rounds [(p0.2 H.next), .nilIface, (.int .i64 0), v65, v66, (.int .i64 0)] (H.push p0.1)).bind fun p67 =>
 natK p67.1 (
 some (.nilIface, p67.2.2)) fun m68 =>
 natK m68 (
 some ((getT p67.2.1 1), p67.2.2)) fun m69 =>
 none)))
 
theorem tt6_tie (C : CallF) (x0 : Value) (H : AHeap) : execK C Tryz.prog 81 tt6_cuts (tt6_hook C) (codeIn (fnOf Tryz.prog 6)) (argsA [x0] 0) H (retK Tryz.prog (fnOf Tryz.prog 6).results.toList) = tt6 C x0 H := by kernel_rfl
 
theorem tt6_from {prim : Prim} {keep : Keep} {n : Nat} (hp : prim 6 = none) (hk : keep 6 = keepOf tt6_loops tt6_cuts) (x0 : Value) (H : AHeap) (y : Value × AHeap) (h : tt6 (callA Tryz.prog prim keep noHooks n) x0 H = some y) : callA Tryz.prog prim keep noHooks (n + 1) 6 [x0] H = some y :=
   call_from (hook := tt6_hook (callA Tryz.prog prim keep noHooks n)) (m := 81) hk (cutsOk_mem (by kernel_rfl)) hp (by kernel_rfl) (by kernel_rfl) (loops_all (l := [loopN (codeIn (fnOf Tryz.prog 6)) 0]) (by kernel_rfl) (all_cons (tt6l5_ok _) all_nil)) (by kernel_rfl) ((tt6_tie _ x0 H).trans h)
 
/-! ## nacelle/table.Who -/
 
noncomputable def tt7_hook (C : CallF) : HookK := fun i => none
 
def tt7_loops : List (Nat × List Nat) := []
 
def tt7_cuts : List (Nat × List Nat) := []
 
 
noncomputable def tt7 (C : CallF) (x0 x1 : Value) (H : AHeap) : Option (Value × AHeap) :=
 (newPtr (cellsOf x0)).bind fun p0 =>
 (loadA (some (some 2)) (p0.2 H.next) (H.push p0.1)).bind fun v1 =>
 (C 8 [v1, x1] (H.push p0.1)).bind fun p2 =>
 (binA Tryz.prog .geq 3 (.tmp 9) (.const (.int .i64 0)) p2.1 (.int .i64 0)).bind fun v3 =>
 boolK v3 (
 (fieldPtr (some (1, 1, 25)) (p0.2 H.next)).bind fun v4 =>
 (loadA (some none) v4 p2.2).bind fun v5 =>
 (indexPtr (some (none, 3)) v5 p2.1).bind fun v6 =>
 (fieldPtr (some (0, 1, 3)) v6).bind fun v7 =>
 (loadA (some none) v7 p2.2).bind fun v8 =>
 some (v8, p2.2)) (
 some ((.int .i64 (-1)), p2.2))
 
theorem tt7_tie (C : CallF) (x0 x1 : Value) (H : AHeap) : execK C Tryz.prog 17 tt7_cuts (tt7_hook C) (codeIn (fnOf Tryz.prog 7)) (argsA [x0, x1] 0) H (retK Tryz.prog (fnOf Tryz.prog 7).results.toList) = tt7 C x0 x1 H := by kernel_rfl
 
theorem tt7_from {prim : Prim} {keep : Keep} {n : Nat} (hp : prim 7 = none) (hk : keep 7 = keepOf tt7_loops tt7_cuts) (x0 x1 : Value) (H : AHeap) (y : Value × AHeap) (h : tt7 (callA Tryz.prog prim keep noHooks n) x0 x1 H = some y) : callA Tryz.prog prim keep noHooks (n + 1) 7 [x0, x1] H = some y :=
   call_from (hook := tt7_hook (callA Tryz.prog prim keep noHooks n)) (m := 17) hk (cutsOk_mem (by kernel_rfl)) hp (by kernel_rfl) (by kernel_rfl) (loops_none (by kernel_rfl)) (by kernel_rfl) ((tt7_tie _ x0 x1 H).trans h)
 
/-! ## nacelle/table.Window -/
 
noncomputable def tt8_hook (C : CallF) : HookK := fun i => none
 
def tt8_loops : List (Nat × List Nat) := []
 
def tt8_cuts : List (Nat × List Nat) := []
 
 
noncomputable def tt8 (C : CallF) (x0 x1 : Value) (H : AHeap) : Option (Value × AHeap) :=
 (newPtr (cellsOf x0)).bind fun p0 =>
 (loadA (some (some 2)) (p0.2 H.next) (H.push p0.1)).bind fun v1 =>
 (C 6 [v1] (H.push p0.1)).bind fun p2 =>
 (binA Tryz.prog .neq 35 (.tmp 6) (.const .nilIface) p2.1 .nilIface).bind fun v3 =>
 boolK v3 (
 some ((.int .i64 (-1)), p2.2)) (
 (loadA (some (some 2)) (p0.2 H.next) p2.2).bind fun v4 =>
 (fieldPtr (some (0, 1, 3)) (p0.2 H.next)).bind fun v5 =>
 (loadA (some none) v5 p2.2).bind fun v6 =>
 (convA (some (some .u64)) v6).bind fun v7 =>
 (binA Tryz.prog .rem 23 (.tmp 9) (.tmp 12) x1 v7).bind fun v8 =>
 (convA (some (some .i64)) v8).bind fun v9 =>
 (C 34 [v4, v9] p2.2).bind fun p10 =>
 some (p10.1, p10.2))
 
theorem tt8_tie (C : CallF) (x0 x1 : Value) (H : AHeap) : execK C Tryz.prog 16 tt8_cuts (tt8_hook C) (codeIn (fnOf Tryz.prog 8)) (argsA [x0, x1] 0) H (retK Tryz.prog (fnOf Tryz.prog 8).results.toList) = tt8 C x0 x1 H := by kernel_rfl
 
theorem tt8_from {prim : Prim} {keep : Keep} {n : Nat} (hp : prim 8 = none) (hk : keep 8 = keepOf tt8_loops tt8_cuts) (x0 x1 : Value) (H : AHeap) (y : Value × AHeap) (h : tt8 (callA Tryz.prog prim keep noHooks n) x0 x1 H = some y) : callA Tryz.prog prim keep noHooks (n + 1) 8 [x0, x1] H = some y :=
   call_from (hook := tt8_hook (callA Tryz.prog prim keep noHooks n)) (m := 16) hk (cutsOk_mem (by kernel_rfl)) hp (by kernel_rfl) (by kernel_rfl) (loops_none (by kernel_rfl)) (by kernel_rfl) ((tt8_tie _ x0 x1 H).trans h)
 
/-! ## nacelle/table.Next -/
 
noncomputable def tt9j25 (C : CallF) (s1 s2 s3 s6 s7 s8 s24 : Value) (H : AHeap) : Option (Nat × List Value × AHeap) :=
 boolK s24 (
 (loadA (some (some 2)) s3 H).bind fun v5 =>
 (binA Tryz.prog .add 23 (.tmp 28) (.tmp 29) s2 s8).bind fun v6 =>
 (fieldPtr (some (0, 1, 3)) s3).bind fun v7 =>
 (loadA (some none) v7 H).bind fun v8 =>
 (convA (some (some .u64)) v8).bind fun v9 =>
 (binA Tryz.prog .rem 23 (.tmp 30) (.tmp 33) v6 v9).bind fun v10 =>
 (convA (some (some .i64)) v10).bind fun v11 =>
 (C 34 [v5, v11] H).bind fun p12 =>
 (binA Tryz.prog .geq 3 (.tmp 37) (.const (.int .i64 0)) p12.1 (.int .i64 0)).bind fun v15 =>
 boolK v15 (
 (fieldPtr (some (1, 1, 25)) s3).bind fun v16 =>
 (loadA (some none) v16 p12.2).bind fun v17 =>
 (indexPtr (some (none, 3)) v17 p12.1).bind fun v18 =>
 (fieldPtr (some (0, 1, 3)) v18).bind fun v19 =>
 (loadA (some none) v19 p12.2).bind fun v20 =>
 (binA Tryz.prog .eql 3 (.tmp 45) (.tmp 46) v20 s1).bind fun v21 =>
 boolK v21 (
 (binA Tryz.prog .add 23 (.tmp 49) (.tmp 50) s2 s8).bind fun v22 =>
 some (2, [s1, s2, s3, v22, (.bool true), s8], p12.2)) (
 (binA Tryz.prog .add 23 (.tmp 25) (.const (.int .u64 1)) s8 (.int .u64 1)).bind fun v23 =>
 some (0, [s1, s2, s3, s6, s7, v23], p12.2))) (
 (binA Tryz.prog .add 23 (.tmp 25) (.const (.int .u64 1)) s8 (.int .u64 1)).bind fun v24 =>
 some (0, [s1, s2, s3, s6, s7, v24], p12.2))) (
 some (1, [s1, s2, s3, s6, s7, s8], H))
 
noncomputable def tt9l4 (C : CallF) (s1 s2 s3 s6 s7 s8 : Value) (H : AHeap) : Option (Nat × List Value × AHeap) :=
 (fieldPtr (some (0, 1, 3)) s3).bind fun v26 =>
 (loadA (some none) v26 H).bind fun v27 =>
 (convA (some (some .u64)) v27).bind fun v28 =>
 (binA Tryz.prog .leq 23 (.tmp 13) (.tmp 16) s8 v28).bind fun v29 =>
 boolK v29 (
 (binA Tryz.prog .add 23 (.tmp 19) (.tmp 20) s2 s8).bind fun v30 =>
 (binA Tryz.prog .gtr 23 (.tmp 21) (.tmp 22) v30 s2).bind fun v31 =>
 tt9j25 C s1 s2 s3 s6 s7 s8 v31 H) (
 tt9j25 C s1 s2 s3 s6 s7 s8 (.bool false) H)
 
noncomputable def tt9l4b (C : CallF) (vs : List Value) (H : AHeap) : Option (Nat × List Value × AHeap) := tt9l4 C (getT vs 0) (getT vs 1) (getT vs 2) (getT vs 3) (getT vs 4) (getT vs 5) H
 
noncomputable def tt9_hook (C : CallF) : HookK := fun i => match Nat.beq i 4 with
   | true => some ⟨[.exit 0, .ret], [1, 2, 3, 6, 7, 8], tt9l4b C⟩
   | false => none
 
def tt9_loops : List (Nat × List Nat) := [(4, [1, 2, 3, 6, 7, 8])]
 
def tt9_cuts : List (Nat × List Nat) := []
 
theorem tt9l4_tie (C : CallF) (vs : List Value) (H : AHeap) : execK C Tryz.prog 52 tt9_cuts (tt9_hook C) (loopN (codeIn (fnOf Tryz.prog 9)) 0) (frameA vs [1, 2, 3, 6, 7, 8] 0) H (finK [.exit 0, .ret] [1, 2, 3, 6, 7, 8]) = tt9l4b C vs H := by kernel_rfl
theorem tt9l4_ok (C : CallF) : LoopOk C Tryz.prog 52 tt9_loops tt9_cuts (tt9_hook C) (loopN (codeIn (fnOf Tryz.prog 9)) 0) :=
   loop_ok (cutsOk_mem (by kernel_rfl)) ⟨[.exit 0, .ret], [1, 2, 3, 6, 7, 8], tt9l4b C⟩ (by kernel_rfl) (by kernel_rfl) (by kernel_rfl) (loops_none (by kernel_rfl)) fun vs H y h => (tt9l4_tie C vs H).trans h
 
noncomputable def tt9 (C : CallF) (x0 x1 x2 : Value) (H : AHeap) : Option (Value × AHeap) :=
 (newPtr (cellsOf x0)).bind fun p0 =>
 (loadA (some (some 2)) (p0.2 H.next) (H.push p0.1)).bind fun v1 =>
 (C 6 [v1] (H.push p0.1)).bind fun p2 =>
 (binA Tryz.prog .neq 35 (.tmp 11) (.const .nilIface) p2.1 .nilIface).bind fun v3 =>
 boolK v3 (
 some (.tuple [(.int .u64 0), (.bool false)].toArray, p2.2)) (
 (iterL (tt9l4b C) rounds [x1, x2, (p0.2 H.next), (.int .u64 0), (.bool false), (.int .u64 1)] p2.2).bind fun p32 =>
 natK p32.1 (
 some (.tuple [(.int .u64 0), (.bool false)].toArray, p32.2.2)) fun m33 =>
 natK m33 (
 some (.tuple [(getT p32.2.1 3), (getT p32.2.1 4)].toArray, p32.2.2)) fun m34 =>
 none)
 
theorem tt9_tie (C : CallF) (x0 x1 x2 : Value) (H : AHeap) : execK C Tryz.prog 52 tt9_cuts (tt9_hook C) (codeIn (fnOf Tryz.prog 9)) (argsA [x0, x1, x2] 0) H (retK Tryz.prog (fnOf Tryz.prog 9).results.toList) = tt9 C x0 x1 x2 H := by kernel_rfl
 
theorem tt9_from {prim : Prim} {keep : Keep} {n : Nat} (hp : prim 9 = none) (hk : keep 9 = keepOf tt9_loops tt9_cuts) (x0 x1 x2 : Value) (H : AHeap) (y : Value × AHeap) (h : tt9 (callA Tryz.prog prim keep noHooks n) x0 x1 x2 H = some y) : callA Tryz.prog prim keep noHooks (n + 1) 9 [x0, x1, x2] H = some y :=
   call_from (hook := tt9_hook (callA Tryz.prog prim keep noHooks n)) (m := 52) hk (cutsOk_mem (by kernel_rfl)) hp (by kernel_rfl) (by kernel_rfl) (loops_all (l := [loopN (codeIn (fnOf Tryz.prog 9)) 0]) (by kernel_rfl) (all_cons (tt9l4_ok _) all_nil)) (by kernel_rfl) ((tt9_tie _ x0 x1 x2 H).trans h)
 
/-! ## nacelle/table.Turns -/
 
noncomputable def tt10_hook (C : CallF) : HookK := fun i => none
 
def tt10_loops : List (Nat × List Nat) := []
 
def tt10_cuts : List (Nat × List Nat) := []
 
 
noncomputable def tt10 (C : CallF) (x0 x1 x2 : Value) (H : AHeap) : Option (Value × AHeap) :=
 (newPtr (cellsOf x0)).bind fun p0 =>
 (loadA (some (some 2)) (p0.2 H.next) (H.push p0.1)).bind fun v1 =>
 (C 6 [v1] (H.push p0.1)).bind fun p2 =>
 (binA Tryz.prog .neq 35 (.tmp 9) (.const .nilIface) p2.1 .nilIface).bind fun v3 =>
 boolK v3 (
 some ((.int .u64 0), p2.2)) (
 (fieldPtr (some (0, 1, 3)) (p0.2 H.next)).bind fun v4 =>
 (loadA (some none) v4 p2.2).bind fun v5 =>
 (convA (some (some .u64)) v5).bind fun v6 =>
 (binA Tryz.prog .quo 23 (.tmp 14) (.tmp 15) x2 v6).bind fun v7 =>
 (loadA (some (some 2)) (p0.2 H.next) p2.2).bind fun v8 =>
 (fieldPtr (some (0, 1, 3)) (p0.2 H.next)).bind fun v9 =>
 (loadA (some none) v9 p2.2).bind fun v10 =>
 (loadA (some (some 2)) (p0.2 H.next) p2.2).bind fun v11 =>
 (binA Tryz.prog .rem 23 (.tmp 26) (.tmp 27) x2 v6).bind fun v12 =>
 (convA (some (some .i64)) v12).bind fun v13 =>
 (C 35 [v8, x1, v10] p2.2).bind fun p14 =>
 chkK (sameOpt v11 (loadA (some (some 2)) (p0.2 H.next) p14.2) && true) (
 (convA (some (some .u64)) p14.1).bind fun v15 =>
 (binA Tryz.prog .mul 23 (.tmp 16) (.tmp 22) v7 v15).bind fun v16 =>
 (C 35 [v11, x1, v13] p14.2).bind fun p17 =>
 (convA (some (some .u64)) p17.1).bind fun v18 =>
 (binA Tryz.prog .add 23 (.tmp 23) (.tmp 31) v16 v18).bind fun v19 =>
 some (v19, p17.2)))
 
theorem tt10_tie (C : CallF) (x0 x1 x2 : Value) (H : AHeap) : execK C Tryz.prog 33 tt10_cuts (tt10_hook C) (codeIn (fnOf Tryz.prog 10)) (argsA [x0, x1, x2] 0) H (retK Tryz.prog (fnOf Tryz.prog 10).results.toList) = tt10 C x0 x1 x2 H := by kernel_rfl
 
theorem tt10_from {prim : Prim} {keep : Keep} {n : Nat} (hp : prim 10 = none) (hk : keep 10 = keepOf tt10_loops tt10_cuts) (x0 x1 x2 : Value) (H : AHeap) (y : Value × AHeap) (h : tt10 (callA Tryz.prog prim keep noHooks n) x0 x1 x2 H = some y) : callA Tryz.prog prim keep noHooks (n + 1) 10 [x0, x1, x2] H = some y :=
   call_from (hook := tt10_hook (callA Tryz.prog prim keep noHooks n)) (m := 33) hk (cutsOk_mem (by kernel_rfl)) hp (by kernel_rfl) (by kernel_rfl) (loops_none (by kernel_rfl)) (by kernel_rfl) ((tt10_tie _ x0 x1 x2 H).trans h)
 
/-! ## nacelle/nacelletop.sparBelow -/
 
noncomputable def tt11l3 (C : CallF) (s0 s1 s2 s7 s10 s11 : Value) (H : AHeap) : Option (Nat × List Value × AHeap) :=
 (binA Tryz.prog .lss 3 (.tmp 11) (.tmp 10) s11 s10).bind fun v1 =>
 boolK v1 (
 (indexPtr (some (none, 1)) s0 s11).bind fun v3 =>
 (loadA (some none) v3 H).bind fun v4 =>
 (binA Tryz.prog .eql 3 (.tmp 17) (.tmp 18) v4 s1).bind fun v5 =>
 boolK v5 (
 (lenA 2 none s0).bind fun v6 =>
 (convA (some (some .u64)) v6).bind fun v7 =>
 (binA Tryz.prog .quo 23 (.tmp 21) (.tmp 24) s2 v7).bind fun v8 =>
 (binA Tryz.prog .add 23 (.tmp 20) (.tmp 25) s7 v8).bind fun v9 =>
 (convA (some (some .u64)) s11).bind fun v10 =>
 (lenA 2 none s0).bind fun v11 =>
 (convA (some (some .u64)) v11).bind fun v12 =>
 (binA Tryz.prog .rem 23 (.tmp 29) (.tmp 32) s2 v12).bind fun v13 =>
 (binA Tryz.prog .lss 23 (.tmp 28) (.tmp 33) v10 v13).bind fun v14 =>
 boolK v14 (
 (binA Tryz.prog .add 23 (.tmp 35) (.const (.int .u64 1)) v9 (.int .u64 1)).bind fun v15 =>
 (binA Tryz.prog .add 3 (.tmp 11) (.const (.int .i64 1)) s11 (.int .i64 1)).bind fun v16 =>
 some (0, [s0, s1, s2, v15, s10, v16], H)) (
 (binA Tryz.prog .add 3 (.tmp 11) (.const (.int .i64 1)) s11 (.int .i64 1)).bind fun v17 =>
 some (0, [s0, s1, s2, v9, s10, v17], H))) (
 (binA Tryz.prog .add 3 (.tmp 11) (.const (.int .i64 1)) s11 (.int .i64 1)).bind fun v18 =>
 some (0, [s0, s1, s2, s7, s10, v18], H))) (
 some (1, [s0, s1, s2, s7, s10, s11], H))
 
noncomputable def tt11l3b (C : CallF) (vs : List Value) (H : AHeap) : Option (Nat × List Value × AHeap) := tt11l3 C (getT vs 0) (getT vs 1) (getT vs 2) (getT vs 3) (getT vs 4) (getT vs 5) H
 
noncomputable def tt11_hook (C : CallF) : HookK := fun i => match Nat.beq i 3 with
   | true => some ⟨[.exit 0], [0, 1, 2, 7, 10, 11], tt11l3b C⟩
   | false => none
 
def tt11_loops : List (Nat × List Nat) := [(3, [0, 1, 2, 7, 10, 11])]
 
def tt11_cuts : List (Nat × List Nat) := []
 
theorem tt11l3_tie (C : CallF) (vs : List Value) (H : AHeap) : execK C Tryz.prog 39 tt11_cuts (tt11_hook C) (loopN (codeIn (fnOf Tryz.prog 11)) 0) (frameA vs [0, 1, 2, 7, 10, 11] 0) H (finK [.exit 0] [0, 1, 2, 7, 10, 11]) = tt11l3b C vs H := by kernel_rfl
theorem tt11l3_ok (C : CallF) : LoopOk C Tryz.prog 39 tt11_loops tt11_cuts (tt11_hook C) (loopN (codeIn (fnOf Tryz.prog 11)) 0) :=
   loop_ok (cutsOk_mem (by kernel_rfl)) ⟨[.exit 0], [0, 1, 2, 7, 10, 11], tt11l3b C⟩ (by kernel_rfl) (by kernel_rfl) (by kernel_rfl) (loops_none (by kernel_rfl)) fun vs H y h => (tt11l3_tie C vs H).trans h
 
noncomputable def tt11 (C : CallF) (x0 x1 x2 : Value) (H : AHeap) : Option (Value × AHeap) :=
 (lenA 2 none x0).bind fun v0 =>
 (iterL (tt11l3b C) rounds [x0, x1, x2, (.int .u64 0), v0, (.int .i64 0)] H).bind fun p19 =>
 natK p19.1 (
 some ((getT p19.2.1 3), p19.2.2)) fun m20 =>
 none
 
theorem tt11_tie (C : CallF) (x0 x1 x2 : Value) (H : AHeap) : execK C Tryz.prog 39 tt11_cuts (tt11_hook C) (codeIn (fnOf Tryz.prog 11)) (argsA [x0, x1, x2] 0) H (retK Tryz.prog (fnOf Tryz.prog 11).results.toList) = tt11 C x0 x1 x2 H := by kernel_rfl
 
theorem tt11_from {prim : Prim} {keep : Keep} {n : Nat} (hp : prim 11 = none) (hk : keep 11 = keepOf tt11_loops tt11_cuts) (x0 x1 x2 : Value) (H : AHeap) (y : Value × AHeap) (h : tt11 (callA Tryz.prog prim keep noHooks n) x0 x1 x2 H = some y) : callA Tryz.prog prim keep noHooks (n + 1) 11 [x0, x1, x2] H = some y :=
   call_from (hook := tt11_hook (callA Tryz.prog prim keep noHooks n)) (m := 39) hk (cutsOk_mem (by kernel_rfl)) hp (by kernel_rfl) (by kernel_rfl) (loops_all (l := [loopN (codeIn (fnOf Tryz.prog 11)) 0]) (by kernel_rfl) (all_cons (tt11l3_ok _) all_nil)) (by kernel_rfl) ((tt11_tie _ x0 x1 x2 H).trans h)
 
/-! ## nacelle/table.Share -/
 
noncomputable def tt12_hook (C : CallF) : HookK := fun i => none
 
def tt12_loops : List (Nat × List Nat) := []
 
def tt12_cuts : List (Nat × List Nat) := []
 
 
noncomputable def tt12 (C : CallF) (x0 x1 : Value) (H : AHeap) : Option (Value × AHeap) :=
 (newPtr (cellsOf x0)).bind fun p0 =>
 (loadA (some (some 2)) (p0.2 H.next) (H.push p0.1)).bind fun v1 =>
 (C 6 [v1] (H.push p0.1)).bind fun p2 =>
 (binA Tryz.prog .neq 35 (.tmp 6) (.const .nilIface) p2.1 .nilIface).bind fun v3 =>
 boolK v3 (
 some ((.int .i64 0), p2.2)) (
 (loadA (some (some 2)) (p0.2 H.next) p2.2).bind fun v4 =>
 (fieldPtr (some (0, 1, 3)) (p0.2 H.next)).bind fun v5 =>
 (loadA (some none) v5 p2.2).bind fun v6 =>
 (C 35 [v4, x1, v6] p2.2).bind fun p7 =>
 some (p7.1, p7.2))
 
theorem tt12_tie (C : CallF) (x0 x1 : Value) (H : AHeap) : execK C Tryz.prog 13 tt12_cuts (tt12_hook C) (codeIn (fnOf Tryz.prog 12)) (argsA [x0, x1] 0) H (retK Tryz.prog (fnOf Tryz.prog 12).results.toList) = tt12 C x0 x1 H := by kernel_rfl
 
theorem tt12_from {prim : Prim} {keep : Keep} {n : Nat} (hp : prim 12 = none) (hk : keep 12 = keepOf tt12_loops tt12_cuts) (x0 x1 : Value) (H : AHeap) (y : Value × AHeap) (h : tt12 (callA Tryz.prog prim keep noHooks n) x0 x1 H = some y) : callA Tryz.prog prim keep noHooks (n + 1) 12 [x0, x1] H = some y :=
   call_from (hook := tt12_hook (callA Tryz.prog prim keep noHooks n)) (m := 13) hk (cutsOk_mem (by kernel_rfl)) hp (by kernel_rfl) (by kernel_rfl) (loops_none (by kernel_rfl)) (by kernel_rfl) ((tt12_tie _ x0 x1 H).trans h)
 
/-! ## nacelle/nacelletop.sparLow -/
 
noncomputable def tt13_hook (C : CallF) : HookK := fun i => none
 
def tt13_loops : List (Nat × List Nat) := []
 
def tt13_cuts : List (Nat × List Nat) := []
 
 
noncomputable def tt13 (C : CallF) (x0 : Value) (H : AHeap) : Option (Value × AHeap) :=
 (binA Tryz.prog .and 23 (.tmp 3) (.const (.int .u64 1023)) x0 (.int .u64 1023)).bind fun v0 =>
 (convA (some (some .i64)) v0).bind fun v1 =>
 some (v1, H)
 
theorem tt13_tie (C : CallF) (x0 : Value) (H : AHeap) : execK C Tryz.prog 6 tt13_cuts (tt13_hook C) (codeIn (fnOf Tryz.prog 13)) (argsA [x0] 0) H (retK Tryz.prog (fnOf Tryz.prog 13).results.toList) = tt13 C x0 H := by kernel_rfl
 
theorem tt13_from {prim : Prim} {keep : Keep} {n : Nat} (hp : prim 13 = none) (hk : keep 13 = keepOf tt13_loops tt13_cuts) (x0 : Value) (H : AHeap) (y : Value × AHeap) (h : tt13 (callA Tryz.prog prim keep noHooks n) x0 H = some y) : callA Tryz.prog prim keep noHooks (n + 1) 13 [x0] H = some y :=
   call_from (hook := tt13_hook (callA Tryz.prog prim keep noHooks n)) (m := 6) hk (cutsOk_mem (by kernel_rfl)) hp (by kernel_rfl) (by kernel_rfl) (loops_none (by kernel_rfl)) (by kernel_rfl) ((tt13_tie _ x0 H).trans h)
 
/-! ## nacelle/table.at -/
 
noncomputable def tt34_hook (C : CallF) : HookK := fun i => none
 
def tt34_loops : List (Nat × List Nat) := []
 
def tt34_cuts : List (Nat × List Nat) := []
 
 
noncomputable def tt34 (C : CallF) (x0 x1 : Value) (H : AHeap) : Option (Value × AHeap) :=
 (newPtr (cellsOf x0)).bind fun p0 =>
 (newPtr (cellsOf x1)).bind fun p1 =>
 (fieldPtr (some (1, 1, 25)) (p0.2 H.next)).bind fun v2 =>
 (loadA (some none) v2 ((H.push p0.1).push p1.1)).bind fun v3 =>
 (lenA 2 none v3).bind fun v4 =>
 (C 52 [v4, (.func (.func 53) ([] : List Value).toArray ([(p0.2 H.next), (p1.2 (H.push p0.1).next)] : List Value).toArray)] ((H.push p0.1).push p1.1)).bind fun p5 =>
 (fieldPtr (some (1, 1, 25)) (p0.2 H.next)).bind fun v6 =>
 (loadA (some none) v6 p5.2).bind fun v7 =>
 (lenA 2 none v7).bind fun v8 =>
 (binA Tryz.prog .lss 3 (.tmp 11) (.tmp 14) p5.1 v8).bind fun v9 =>
 boolK v9 (
 (fieldPtr (some (1, 1, 25)) (p0.2 H.next)).bind fun v10 =>
 (loadA (some none) v10 p5.2).bind fun v11 =>
 (indexPtr (some (none, 3)) v11 p5.1).bind fun v12 =>
 (fieldPtr (some (1, 1, 3)) v12).bind fun v13 =>
 (loadA (some none) v13 p5.2).bind fun v14 =>
 (loadA (some none) (p1.2 (H.push p0.1).next) p5.2).bind fun v15 =>
 (binA Tryz.prog .leq 3 (.tmp 22) (.tmp 23) v14 v15).bind fun v16 =>
 boolK v16 (
 some (p5.1, p5.2)) (
 some ((.int .i64 (-1)), p5.2))) (
 some ((.int .i64 (-1)), p5.2))
 
theorem tt34_tie (C : CallF) (x0 x1 : Value) (H : AHeap) : execK C Tryz.prog 27 tt34_cuts (tt34_hook C) (codeIn (fnOf Tryz.prog 34)) (argsA [x0, x1] 0) H (retK Tryz.prog (fnOf Tryz.prog 34).results.toList) = tt34 C x0 x1 H := by kernel_rfl
 
theorem tt34_from {prim : Prim} {keep : Keep} {n : Nat} (hp : prim 34 = none) (hk : keep 34 = keepOf tt34_loops tt34_cuts) (x0 x1 : Value) (H : AHeap) (y : Value × AHeap) (h : tt34 (callA Tryz.prog prim keep noHooks n) x0 x1 H = some y) : callA Tryz.prog prim keep noHooks (n + 1) 34 [x0, x1] H = some y :=
   call_from (hook := tt34_hook (callA Tryz.prog prim keep noHooks n)) (m := 27) hk (cutsOk_mem (by kernel_rfl)) hp (by kernel_rfl) (by kernel_rfl) (loops_none (by kernel_rfl)) (by kernel_rfl) ((tt34_tie _ x0 x1 H).trans h)
 
/-! ## nacelle/table.below -/
 
noncomputable def tt35l3 (C : CallF) (s1 s2 s7 s11 s12 s13 : Value) (H : AHeap) : Option (Nat × List Value × AHeap) :=
 (binA Tryz.prog .lss 3 (.tmp 13) (.tmp 12) s13 s12).bind fun v4 =>
 boolK v4 (
 (indexPtr (some (none, 3)) s11 s13).bind fun v6 =>
 (loadA (some (some 3)) v6 H).bind fun v7 =>
 (storeA (some 3) (.pointer (some ⟨H.next, 0, none⟩)) v7 (H.push (.cells [(.int .i64 0), (.int .i64 0), (.int .i64 0)]))).bind fun p8 =>
 (fieldPtr (some (0, 1, 3)) (.pointer (some ⟨H.next, 0, none⟩))).bind fun v9 =>
 (loadA (some none) v9 p8.2).bind fun v10 =>
 (binA Tryz.prog .eql 3 (.tmp 18) (.tmp 19) v10 s1).bind fun v11 =>
 boolK v11 (
 (fieldPtr (some (2, 1, 3)) (.pointer (some ⟨H.next, 0, none⟩))).bind fun v12 =>
 (loadA (some none) v12 p8.2).bind fun v13 =>
 (fieldPtr (some (1, 1, 3)) (.pointer (some ⟨H.next, 0, none⟩))).bind fun v14 =>
 (loadA (some none) v14 p8.2).bind fun v15 =>
 (binA Tryz.prog .sub 3 (.tmp 24) (.tmp 26) s2 v15).bind fun v16 =>
 (minOp [v13, v16]).bind fun v17 =>
 (maxOp [(.int .i64 0), v17]).bind fun v18 =>
 (binA Tryz.prog .add 3 (.tmp 21) (.tmp 29) s7 v18).bind fun v19 =>
 (binA Tryz.prog .add 3 (.tmp 13) (.const (.int .i64 1)) s13 (.int .i64 1)).bind fun v20 =>
 some (0, [s1, s2, v19, s11, s12, v20], p8.2)) (
 (binA Tryz.prog .add 3 (.tmp 13) (.const (.int .i64 1)) s13 (.int .i64 1)).bind fun v21 =>
 some (0, [s1, s2, s7, s11, s12, v21], p8.2))) (
 some (1, [s1, s2, s7, s11, s12, s13], H))
 
noncomputable def tt35l3b (C : CallF) (vs : List Value) (H : AHeap) : Option (Nat × List Value × AHeap) := tt35l3 C (getT vs 0) (getT vs 1) (getT vs 2) (getT vs 3) (getT vs 4) (getT vs 5) H
 
noncomputable def tt35_hook (C : CallF) : HookK := fun i => match Nat.beq i 3 with
   | true => some ⟨[.exit 0], [1, 2, 7, 11, 12, 13], tt35l3b C⟩
   | false => none
 
def tt35_loops : List (Nat × List Nat) := [(3, [1, 2, 7, 11, 12, 13])]
 
def tt35_cuts : List (Nat × List Nat) := []
 
theorem tt35l3_tie (C : CallF) (vs : List Value) (H : AHeap) : execK C Tryz.prog 33 tt35_cuts (tt35_hook C) (loopN (codeIn (fnOf Tryz.prog 35)) 0) (frameA vs [1, 2, 7, 11, 12, 13] 0) H (finK [.exit 0] [1, 2, 7, 11, 12, 13]) = tt35l3b C vs H := by kernel_rfl
theorem tt35l3_ok (C : CallF) : LoopOk C Tryz.prog 33 tt35_loops tt35_cuts (tt35_hook C) (loopN (codeIn (fnOf Tryz.prog 35)) 0) :=
   loop_ok (cutsOk_mem (by kernel_rfl)) ⟨[.exit 0], [1, 2, 7, 11, 12, 13], tt35l3b C⟩ (by kernel_rfl) (by kernel_rfl) (by kernel_rfl) (loops_none (by kernel_rfl)) fun vs H y h => (tt35l3_tie C vs H).trans h
 
noncomputable def tt35 (C : CallF) (x0 x1 x2 : Value) (H : AHeap) : Option (Value × AHeap) :=
 (newPtr (cellsOf x0)).bind fun p0 =>
 (fieldPtr (some (1, 1, 25)) (p0.2 H.next)).bind fun v1 =>
 (loadA (some none) v1 (H.push p0.1)).bind fun v2 =>
 (lenA 2 none v2).bind fun v3 =>
 (iterL (tt35l3b C) rounds [x1, x2, (.int .i64 0), v2, v3, (.int .i64 0)] (H.push p0.1)).bind fun p22 =>
 natK p22.1 (
 some ((getT p22.2.1 2), p22.2.2)) fun m23 =>
 none
 
theorem tt35_tie (C : CallF) (x0 x1 x2 : Value) (H : AHeap) : execK C Tryz.prog 33 tt35_cuts (tt35_hook C) (codeIn (fnOf Tryz.prog 35)) (argsA [x0, x1, x2] 0) H (retK Tryz.prog (fnOf Tryz.prog 35).results.toList) = tt35 C x0 x1 x2 H := by kernel_rfl
 
theorem tt35_from {prim : Prim} {keep : Keep} {n : Nat} (hp : prim 35 = none) (hk : keep 35 = keepOf tt35_loops tt35_cuts) (x0 x1 x2 : Value) (H : AHeap) (y : Value × AHeap) (h : tt35 (callA Tryz.prog prim keep noHooks n) x0 x1 x2 H = some y) : callA Tryz.prog prim keep noHooks (n + 1) 35 [x0, x1, x2] H = some y :=
   call_from (hook := tt35_hook (callA Tryz.prog prim keep noHooks n)) (m := 33) hk (cutsOk_mem (by kernel_rfl)) hp (by kernel_rfl) (by kernel_rfl) (loops_all (l := [loopN (codeIn (fnOf Tryz.prog 35)) 0]) (by kernel_rfl) (all_cons (tt35l3_ok _) all_nil)) (by kernel_rfl) ((tt35_tie _ x0 x1 x2 H).trans h)
 
/-! ## sort.Search -/
 
noncomputable def tt52l2 (C : CallF) (s1 s5 s6 : Value) (H : AHeap) : Option (Nat × List Value × AHeap) :=
 (binA Tryz.prog .lss 3 (.tmp 9) (.tmp 10) s5 s6).bind fun v0 =>
 boolK v0 (
 (binA Tryz.prog .add 3 (.tmp 12) (.tmp 13) s5 s6).bind fun v1 =>
 (convA (some (some .u64)) v1).bind fun v2 =>
 (binA Tryz.prog .shr 55 (.tmp 15) (.const (.int .u64 1)) v2 (.int .u64 1)).bind fun v3 =>
 (convA (some (some .i64)) v3).bind fun v4 =>
 (callTo C H (calleeA s1 [v4])).bind fun p5 =>
 (unA .not p5.1).bind fun v6 =>
 boolK v6 (
 (binA Tryz.prog .add 3 (.tmp 22) (.const (.int .i64 1)) v4 (.int .i64 1)).bind fun v7 =>
 some (0, [s1, v7, s6], p5.2)) (
 some (0, [s1, s5, v4], p5.2))) (
 some (1, [s1, s5, s6], H))
 
noncomputable def tt52l2b (C : CallF) (vs : List Value) (H : AHeap) : Option (Nat × List Value × AHeap) := tt52l2 C (getT vs 0) (getT vs 1) (getT vs 2) H
 
noncomputable def tt52_hook (C : CallF) : HookK := fun i => match Nat.beq i 2 with
   | true => some ⟨[.exit 0], [1, 5, 6], tt52l2b C⟩
   | false => none
 
def tt52_loops : List (Nat × List Nat) := [(2, [1, 5, 6])]
 
def tt52_cuts : List (Nat × List Nat) := []
 
theorem tt52l2_tie (C : CallF) (vs : List Value) (H : AHeap) : execK C Tryz.prog 26 tt52_cuts (tt52_hook C) (loopN (codeIn (fnOf Tryz.prog 52)) 0) (frameA vs [1, 5, 6] 0) H (finK [.exit 0] [1, 5, 6]) = tt52l2b C vs H := by kernel_rfl
theorem tt52l2_ok (C : CallF) : LoopOk C Tryz.prog 26 tt52_loops tt52_cuts (tt52_hook C) (loopN (codeIn (fnOf Tryz.prog 52)) 0) :=
   loop_ok (cutsOk_mem (by kernel_rfl)) ⟨[.exit 0], [1, 5, 6], tt52l2b C⟩ (by kernel_rfl) (by kernel_rfl) (by kernel_rfl) (loops_none (by kernel_rfl)) fun vs H y h => (tt52l2_tie C vs H).trans h
 
noncomputable def tt52 (C : CallF) (x0 x1 : Value) (H : AHeap) : Option (Value × AHeap) :=
 (iterL (tt52l2b C) rounds [x1, (.int .i64 0), x0] H).bind fun p8 =>
 natK p8.1 (
 some ((getT p8.2.1 1), p8.2.2)) fun m9 =>
 none
 
theorem tt52_tie (C : CallF) (x0 x1 : Value) (H : AHeap) : execK C Tryz.prog 26 tt52_cuts (tt52_hook C) (codeIn (fnOf Tryz.prog 52)) (argsA [x0, x1] 0) H (retK Tryz.prog (fnOf Tryz.prog 52).results.toList) = tt52 C x0 x1 H := by kernel_rfl
 
theorem tt52_from {prim : Prim} {keep : Keep} {n : Nat} (hp : prim 52 = none) (hk : keep 52 = keepOf tt52_loops tt52_cuts) (x0 x1 : Value) (H : AHeap) (y : Value × AHeap) (h : tt52 (callA Tryz.prog prim keep noHooks n) x0 x1 H = some y) : callA Tryz.prog prim keep noHooks (n + 1) 52 [x0, x1] H = some y :=
   call_from (hook := tt52_hook (callA Tryz.prog prim keep noHooks n)) (m := 26) hk (cutsOk_mem (by kernel_rfl)) hp (by kernel_rfl) (by kernel_rfl) (loops_all (l := [loopN (codeIn (fnOf Tryz.prog 52)) 0]) (by kernel_rfl) (all_cons (tt52l2_ok _) all_nil)) (by kernel_rfl) ((tt52_tie _ x0 x1 H).trans h)
 
/-! ## nacelle/table.at$1 -/
 
noncomputable def tt53_hook (C : CallF) : HookK := fun i => none
 
def tt53_loops : List (Nat × List Nat) := []
 
def tt53_cuts : List (Nat × List Nat) := []
 
 
noncomputable def tt53 (C : CallF) (x0 x1 x2 : Value) (H : AHeap) : Option (Value × AHeap) :=
 (fieldPtr (some (1, 1, 25)) x1).bind fun v0 =>
 (loadA (some none) v0 H).bind fun v1 =>
 (indexPtr (some (none, 3)) v1 x0).bind fun v2 =>
 (fieldPtr (some (1, 1, 3)) v2).bind fun v3 =>
 (loadA (some none) v3 H).bind fun v4 =>
 (fieldPtr (some (1, 1, 25)) x1).bind fun v5 =>
 (loadA (some none) v5 H).bind fun v6 =>
 (indexPtr (some (none, 3)) v6 x0).bind fun v7 =>
 (fieldPtr (some (2, 1, 3)) v7).bind fun v8 =>
 (loadA (some none) v8 H).bind fun v9 =>
 (binA Tryz.prog .add 3 (.tmp 10) (.tmp 16) v4 v9).bind fun v10 =>
 (loadA (some none) x2 H).bind fun v11 =>
 (binA Tryz.prog .gtr 3 (.tmp 17) (.tmp 18) v10 v11).bind fun v12 =>
 some (v12, H)
 
theorem tt53_tie (C : CallF) (x0 x1 x2 : Value) (H : AHeap) : execK C Tryz.prog 20 tt53_cuts (tt53_hook C) (codeIn (fnOf Tryz.prog 53)) (argsA [x0, x1, x2] 0) H (retK Tryz.prog (fnOf Tryz.prog 53).results.toList) = tt53 C x0 x1 x2 H := by kernel_rfl
 
theorem tt53_from {prim : Prim} {keep : Keep} {n : Nat} (hp : prim 53 = none) (hk : keep 53 = keepOf tt53_loops tt53_cuts) (x0 x1 x2 : Value) (H : AHeap) (y : Value × AHeap) (h : tt53 (callA Tryz.prog prim keep noHooks n) x0 x1 x2 H = some y) : callA Tryz.prog prim keep noHooks (n + 1) 53 [x0, x1, x2] H = some y :=
   call_from (hook := tt53_hook (callA Tryz.prog prim keep noHooks n)) (m := 20) hk (cutsOk_mem (by kernel_rfl)) hp (by kernel_rfl) (by kernel_rfl) (loops_none (by kernel_rfl)) (by kernel_rfl) ((tt53_tie _ x0 x1 x2 H).trans h)
 
end Go.Abs
