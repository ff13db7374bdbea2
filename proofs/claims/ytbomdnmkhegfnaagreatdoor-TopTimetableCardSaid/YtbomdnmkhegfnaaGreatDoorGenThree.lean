/- printed by Gen.lean -/
import Derived.Test.YtbomdnmkhegfnaaGreatDoorProg
import Derived.KernelRfl
import Derived.Test.YtbomdnmkhegfnaaGreatDoorAbsTwo
set_option linter.all false
namespace Go.Abs
open Go.Proofs
/-! ## nacelle/nacelletop.TopTimetable -/
 
noncomputable def tt3l9 (C : CallF) (s0 s1 s2 s3 s4 s5 s6 s15 s16 s17 s18 s19 s20 s21 : Value) (H : AHeap) : Option (Nat × List Value × AHeap) :=
 (binA Tryz.prog .gtr 3 (.tmp 79) (.const (.int .i64 0)) s21 (.int .i64 0)).bind fun v9 =>
 boolK v9 (
 (buildSliceA (some (1, 8, [(.int .i64 0)])) 1 [(0, (.int .i64 (-1)))]).bind fun p10 =>
 (appendA (some (1, 8)) s17 (p10.2 H.next) (H.push p10.1)).bind fun p11 =>
 (buildSliceA (some (1, 8, [(.int .i64 0)])) 1 [(0, (.int .i64 (-1)))]).bind fun p12 =>
 (appendA (some (1, 8)) s18 (p12.2 p11.2.next) (p11.2.push p12.1)).bind fun p13 =>
 (binA Tryz.prog .sub 3 (.tmp 81) (.const (.int .i64 1)) s21 (.int .i64 1)).bind fun v14 =>
 some (0, [s0, s1, s2, s3, s4, s5, s6, s15, s16, p11.1, p13.1, s19, s20, v14], p13.2)) (
 some (1, [s0, s1, s2, s3, s4, s5, s6, s15, s16, s17, s18, s19, s20, s21], H))
 
noncomputable def tt3l9b (C : CallF) (vs : List Value) (H : AHeap) : Option (Nat × List Value × AHeap) := tt3l9 C (getT vs 0) (getT vs 1) (getT vs 2) (getT vs 3) (getT vs 4) (getT vs 5) (getT vs 6) (getT vs 7) (getT vs 8) (getT vs 9) (getT vs 10) (getT vs 11) (getT vs 12) (getT vs 13) H
 
noncomputable def tt3l14 (C : CallF) (s0 s1 s2 s3 s4 s5 s6 s15 s16 s17 s18 s19 s20 s22 : Value) (H : AHeap) : Option (Nat × List Value × AHeap) :=
 (binA Tryz.prog .gtr 3 (.tmp 108) (.const (.int .i64 0)) s22 (.int .i64 0)).bind fun v35 =>
 boolK v35 (
 (fieldPtr (some (1, 1, 3)) s20).bind fun v36 =>
 (loadA (some none) v36 H).bind fun v37 =>
 (C 5 [v37, (.int .i64 4)] H).bind fun p38 =>
 (buildSliceA (some (1, 8, [(.int .i64 0)])) 1 [(0, p38.1)]).bind fun p39 =>
 (appendA (some (1, 8)) s17 (p39.2 p38.2.next) (p38.2.push p39.1)).bind fun p40 =>
 (buildSliceA (some (1, 8, [(.int .i64 0)])) 1 [(0, s19)]).bind fun p41 =>
 (appendA (some (1, 8)) s18 (p41.2 p40.2.next) (p40.2.push p41.1)).bind fun p42 =>
 (binA Tryz.prog .sub 3 (.tmp 110) (.const (.int .i64 1)) s22 (.int .i64 1)).bind fun v43 =>
 some (0, [s0, s1, s2, s3, s4, s5, s6, s15, s16, p40.1, p42.1, s19, s20, v43], p42.2)) (
 some (1, [s0, s1, s2, s3, s4, s5, s6, s15, s16, s17, s18, s19, s20, s22], H))
 
noncomputable def tt3l14b (C : CallF) (vs : List Value) (H : AHeap) : Option (Nat × List Value × AHeap) := tt3l14 C (getT vs 0) (getT vs 1) (getT vs 2) (getT vs 3) (getT vs 4) (getT vs 5) (getT vs 6) (getT vs 7) (getT vs 8) (getT vs 9) (getT vs 10) (getT vs 11) (getT vs 12) (getT vs 13) H
 
noncomputable def tt3j48 (C : CallF) (s0 s1 s2 s3 s4 s5 s6 s15 s16 s17 s18 s19 s69 : Value) (H : AHeap) : Option (Nat × List Value × AHeap) :=
 boolK s69 (
 (indexPtr (some (none, 4)) s0 s19).bind fun v3 =>
 (loadA (some (some 4)) v3 H).bind fun v4 =>
 (storeA (some 4) (.pointer (some ⟨H.next, 0, none⟩)) v4 (H.push (.cells [(.int .i64 0), (.int .i64 0), (.int .i64 0), (.int .i64 0)]))).bind fun p5 =>
 (fieldPtr (some (0, 1, 3)) (.pointer (some ⟨H.next, 0, none⟩))).bind fun v6 =>
 (loadA (some none) v6 p5.2).bind fun v7 =>
 (C 5 [v7, (.int .i64 4)] p5.2).bind fun p8 =>
 (iterL (tt3l9b C) rounds [s0, s1, s2, s3, s4, s5, s6, s15, s16, s17, s18, s19, (.pointer (some ⟨H.next, 0, none⟩)), p8.1] p8.2).bind fun p15 =>
 natK p15.1 (
 (fieldPtr (some (1, 1, 25)) (getT p15.2.1 8)).bind fun v16 =>
 (loadA (some none) v16 p15.2.2).bind fun v17 =>
 (fieldPtr (some (1, 1, 3)) (getT p15.2.1 12)).bind fun v18 =>
 (loadA (some none) v18 p15.2.2).bind fun v19 =>
 (lenA 2 none (getT p15.2.1 9)).bind fun v20 =>
 (fieldPtr (some (2, 1, 3)) (getT p15.2.1 12)).bind fun v21 =>
 (loadA (some none) v21 p15.2.2).bind fun v22 =>
 (C 5 [v19, (.int .i64 4)] p15.2.2).bind fun p23 =>
 chkK (sameOpt v22 (loadA (some none) v21 p23.2) && (sameOpt v17 (loadA (some none) v16 p23.2) && true)) (
 (C 5 [v22, (.int .i64 5)] p23.2).bind fun p24 =>
 chkK (sameOpt v17 (loadA (some none) v16 p24.2) && true) (
 (binA Tryz.prog .add 3 (.const (.int .i64 1)) (.tmp 98) (.int .i64 1) p24.1).bind fun v25 =>
 (buildA (buildT Tryz.prog 33) [(0, p23.1), (1, v20), (2, v25)]).bind fun v26 =>
 (buildSliceA (some (3, 24, [(.int .i64 0), (.int .i64 0), (.int .i64 0)])) 1 [(0, v26)]).bind fun p27 =>
 (appendA (some (3, 24)) v17 (p27.2 p24.2.next) (p24.2.push p27.1)).bind fun p28 =>
 (fieldPtr (some (1, 1, 25)) (getT p15.2.1 8)).bind fun v29 =>
 (storeA (some 1) v29 p28.1 p28.2).bind fun p30 =>
 (fieldPtr (some (2, 1, 3)) (getT p15.2.1 12)).bind fun v31 =>
 (loadA (some none) v31 p30.2).bind fun v32 =>
 (C 5 [v32, (.int .i64 5)] p30.2).bind fun p33 =>
 (binA Tryz.prog .add 3 (.const (.int .i64 1)) (.tmp 106) (.int .i64 1) p33.1).bind fun v34 =>
 (iterL (tt3l14b C) rounds [(getT p15.2.1 0), (getT p15.2.1 1), (getT p15.2.1 2), (getT p15.2.1 3), (getT p15.2.1 4), (getT p15.2.1 5), (getT p15.2.1 6), (getT p15.2.1 7), (getT p15.2.1 8), (getT p15.2.1 9), (getT p15.2.1 10), (getT p15.2.1 11), (getT p15.2.1 12), v34] p33.2).bind fun p44 =>
 natK p44.1 (
 (binA Tryz.prog .add 3 (.tmp 70) (.const (.int .i64 1)) (getT p44.2.1 11) (.int .i64 1)).bind fun v45 =>
 some (0, [(getT p44.2.1 0), (getT p44.2.1 1), (getT p44.2.1 2), (getT p44.2.1 3), (getT p44.2.1 4), (getT p44.2.1 5), (getT p44.2.1 6), (getT p44.2.1 7), (getT p44.2.1 8), (getT p44.2.1 9), (getT p44.2.1 10), v45], p44.2.2)) fun m46 =>
 none))) fun m47 =>
 none) (
 some (1, [s0, s1, s2, s3, s4, s5, s6, s15, s16, s17, s18, s19], H))
 
noncomputable def tt3l5 (C : CallF) (s0 s1 s2 s3 s4 s5 s6 s15 s16 s17 s18 s19 : Value) (H : AHeap) : Option (Nat × List Value × AHeap) :=
 (lenA 2 none s0).bind fun v49 =>
 (binA Tryz.prog .lss 3 (.tmp 62) (.tmp 64) s19 v49).bind fun v50 =>
 boolK v50 (
 (binA Tryz.prog .lss 3 (.tmp 67) (.const (.int .i64 10)) s19 (.int .i64 10)).bind fun v51 =>
 tt3j48 C s0 s1 s2 s3 s4 s5 s6 s15 s16 s17 s18 s19 v51 H) (
 tt3j48 C s0 s1 s2 s3 s4 s5 s6 s15 s16 s17 s18 s19 (.bool false) H)
 
noncomputable def tt3l5b (C : CallF) (vs : List Value) (H : AHeap) : Option (Nat × List Value × AHeap) := tt3l5 C (getT vs 0) (getT vs 1) (getT vs 2) (getT vs 3) (getT vs 4) (getT vs 5) (getT vs 6) (getT vs 7) (getT vs 8) (getT vs 9) (getT vs 10) (getT vs 11) H
 
noncomputable def tt3l28 (C : CallF) (s1 s2 s3 s4 s5 s6 s14 s15 s16 s17 s18 s25 s26 s150 s151 s152 : Value) (H : AHeap) : Option (Nat × List Value × AHeap) :=
 (fieldPtr (some (0, 1, 3)) s16).bind fun v68 =>
 (loadA (some none) v68 H).bind fun v69 =>
 (convA (some (some .u64)) v69).bind fun v70 =>
 (binA Tryz.prog .leq 23 (.tmp 156) (.tmp 159) s26 v70).bind fun v71 =>
 boolK v71 (
 (binA Tryz.prog .add 23 (.tmp 163) (.tmp 164) s25 s26).bind fun v72 =>
 (fieldPtr (some (0, 1, 3)) s16).bind fun v73 =>
 (loadA (some none) v73 H).bind fun v74 =>
 (convA (some (some .u64)) v74).bind fun v75 =>
 (binA Tryz.prog .rem 23 (.tmp 166) (.tmp 169) v72 v75).bind fun v76 =>
 (convA (some (some .i64)) v76).bind fun v77 =>
 (loadA (some (some 2)) s16 H).bind fun v79 =>
 (indexPtr (some (none, 1)) s17 v77).bind fun v80 =>
 (loadA (some none) v80 H).bind fun v81 =>
 (C 7 [v79, v72] H).bind fun p82 =>
 chkK (sameOpt v81 (loadA (some none) v80 p82.2) && true) (
 (binA Tryz.prog .neq 3 (.tmp 174) (.tmp 178) p82.1 v81).bind fun v83 =>
 boolK v83 (
 some (2, [s1, s2, s3, s4, s5, s6, (.bool false), s15, s16, s17, s18, s25, s26, s150, s151, s152], p82.2)) (
 (loadA (some (some 2)) s16 p82.2).bind fun v84 =>
 (indexPtr (some (none, 1)) s18 v77).bind fun v85 =>
 (loadA (some none) v85 p82.2).bind fun v86 =>
 (C 8 [v84, v72] p82.2).bind fun p87 =>
 chkK (sameOpt v86 (loadA (some none) v85 p87.2) && true) (
 (binA Tryz.prog .neq 3 (.tmp 183) (.tmp 187) p87.1 v86).bind fun v88 =>
 boolK v88 (
 some (2, [s1, s2, s3, s4, s5, s6, (.bool false), s15, s16, s17, s18, s25, s26, s150, s151, s152], p87.2)) (
 (binA Tryz.prog .add 23 (.tmp 161) (.const (.int .u64 1)) s26 (.int .u64 1)).bind fun v89 =>
 some (0, [s1, s2, s3, s4, s5, s6, s14, s15, s16, s17, s18, s25, v89, s150, s151, s152], p87.2)))))) (
 some (1, [s1, s2, s3, s4, s5, s6, s14, s15, s16, s17, s18, s25, s26, s150, s151, s152], H))
 
noncomputable def tt3l28b (C : CallF) (vs : List Value) (H : AHeap) : Option (Nat × List Value × AHeap) := tt3l28 C (getT vs 0) (getT vs 1) (getT vs 2) (getT vs 3) (getT vs 4) (getT vs 5) (getT vs 6) (getT vs 7) (getT vs 8) (getT vs 9) (getT vs 10) (getT vs 11) (getT vs 12) (getT vs 13) (getT vs 14) (getT vs 15) H
 
noncomputable def tt3j108 (C : CallF) (s1 s2 s3 s4 s5 s6 s14 s15 s16 s17 s18 s25 s29 s30 s31 s32 s150 s151 s152 s201 : Value) (H : AHeap) : Option (Nat × List Value × AHeap) :=
 boolK s201 (
 (convA (some (some .u64)) s32).bind fun v93 =>
 (binA Tryz.prog .add 23 (.tmp 204) (.tmp 206) s25 v93).bind fun v94 =>
 (binA Tryz.prog .gtr 23 (.tmp 208) (.tmp 209) v94 s25).bind fun v97 =>
 boolK v97 (
 (fieldPtr (some (0, 1, 3)) s16).bind fun v98 =>
 (loadA (some none) v98 H).bind fun v99 =>
 (convA (some (some .u64)) v99).bind fun v100 =>
 (binA Tryz.prog .rem 23 (.tmp 213) (.tmp 216) v94 v100).bind fun v101 =>
 (indexPtr (some (none, 1)) s17 v101).bind fun v102 =>
 (loadA (some none) v102 H).bind fun v103 =>
 (binA Tryz.prog .eql 3 (.tmp 219) (.tmp 220) v103 s29).bind fun v104 =>
 boolK v104 (
 (binA Tryz.prog .add 3 (.tmp 202) (.const (.int .i64 1)) s32 (.int .i64 1)).bind fun v105 =>
 some (0, [s1, s2, s3, s4, s5, s6, s14, s15, s16, s17, s18, s25, s29, v94, (.bool true), v105, s150, s151, s152], H)) (
 (binA Tryz.prog .add 3 (.tmp 202) (.const (.int .i64 1)) s32 (.int .i64 1)).bind fun v106 =>
 some (0, [s1, s2, s3, s4, s5, s6, s14, s15, s16, s17, s18, s25, s29, s30, s31, v106, s150, s151, s152], H))) (
 (binA Tryz.prog .add 3 (.tmp 202) (.const (.int .i64 1)) s32 (.int .i64 1)).bind fun v107 =>
 some (0, [s1, s2, s3, s4, s5, s6, s14, s15, s16, s17, s18, s25, s29, s30, s31, v107, s150, s151, s152], H))) (
 some (1, [s1, s2, s3, s4, s5, s6, s14, s15, s16, s17, s18, s25, s29, s30, s31, s32, s150, s151, s152], H))
 
noncomputable def tt3l39 (C : CallF) (s1 s2 s3 s4 s5 s6 s14 s15 s16 s17 s18 s25 s29 s30 s31 s32 s150 s151 s152 : Value) (H : AHeap) : Option (Nat × List Value × AHeap) :=
 (fieldPtr (some (0, 1, 3)) s16).bind fun v109 =>
 (loadA (some none) v109 H).bind fun v110 =>
 (binA Tryz.prog .leq 3 (.tmp 194) (.tmp 196) s32 v110).bind fun v111 =>
 boolK v111 (
 (unA .not s31).bind fun v112 =>
 tt3j108 C s1 s2 s3 s4 s5 s6 s14 s15 s16 s17 s18 s25 s29 s30 s31 s32 s150 s151 s152 v112 H) (
 tt3j108 C s1 s2 s3 s4 s5 s6 s14 s15 s16 s17 s18 s25 s29 s30 s31 s32 s150 s151 s152 (.bool false) H)
 
noncomputable def tt3l39b (C : CallF) (vs : List Value) (H : AHeap) : Option (Nat × List Value × AHeap) := tt3l39 C (getT vs 0) (getT vs 1) (getT vs 2) (getT vs 3) (getT vs 4) (getT vs 5) (getT vs 6) (getT vs 7) (getT vs 8) (getT vs 9) (getT vs 10) (getT vs 11) (getT vs 12) (getT vs 13) (getT vs 14) (getT vs 15) (getT vs 16) (getT vs 17) (getT vs 18) H
 
noncomputable def tt3l35 (C : CallF) (s1 s2 s3 s4 s5 s6 s14 s15 s16 s17 s18 s25 s29 s150 s151 s152 : Value) (H : AHeap) : Option (Nat × List Value × AHeap) :=
 (binA Tryz.prog .lss 3 (.tmp 190) (.const (.int .i64 5)) s29 (.int .i64 5)).bind fun v91 =>
 boolK v91 (
 (iterL (tt3l39b C) rounds [s1, s2, s3, s4, s5, s6, s14, s15, s16, s17, s18, s25, s29, (.int .u64 0), (.bool false), (.int .i64 1), s150, s151, s152] H).bind fun p113 =>
 natK p113.1 (
 (loadA (some (some 2)) (getT p113.2.1 8) p113.2.2).bind fun v114 =>
 (C 9 [v114, (getT p113.2.1 12), (getT p113.2.1 11)] p113.2.2).bind fun p115 =>
 (extractA p115.1 0).bind fun v116 =>
 (extractA p115.1 1).bind fun v117 =>
 (binA Tryz.prog .neq 23 (.tmp 231) (.tmp 232) v116 (getT p113.2.1 13)).bind fun v119 =>
 boolK v119 (
 some (2, [(getT p113.2.1 0), (getT p113.2.1 1), (getT p113.2.1 2), (getT p113.2.1 3), (getT p113.2.1 4), (getT p113.2.1 5), (.bool false), (getT p113.2.1 7), (getT p113.2.1 8), (getT p113.2.1 9), (getT p113.2.1 10), (getT p113.2.1 11), (getT p113.2.1 12), (getT p113.2.1 16), (getT p113.2.1 17), (getT p113.2.1 18)], p115.2)) (
 (binA Tryz.prog .neq 4 (.tmp 235) (.tmp 236) v117 (getT p113.2.1 14)).bind fun v120 =>
 boolK v120 (
 some (2, [(getT p113.2.1 0), (getT p113.2.1 1), (getT p113.2.1 2), (getT p113.2.1 3), (getT p113.2.1 4), (getT p113.2.1 5), (.bool false), (getT p113.2.1 7), (getT p113.2.1 8), (getT p113.2.1 9), (getT p113.2.1 10), (getT p113.2.1 11), (getT p113.2.1 12), (getT p113.2.1 16), (getT p113.2.1 17), (getT p113.2.1 18)], p115.2)) (
 (loadA (some (some 2)) (getT p113.2.1 8) p115.2).bind fun v121 =>
 (C 10 [v121, (getT p113.2.1 12), (getT p113.2.1 11)] p115.2).bind fun p122 =>
 (C 11 [(getT p113.2.1 9), (getT p113.2.1 12), (getT p113.2.1 11)] p122.2).bind fun p123 =>
 (binA Tryz.prog .neq 23 (.tmp 243) (.tmp 247) p122.1 p123.1).bind fun v124 =>
 boolK v124 (
 some (2, [(getT p113.2.1 0), (getT p113.2.1 1), (getT p113.2.1 2), (getT p113.2.1 3), (getT p113.2.1 4), (getT p113.2.1 5), (.bool false), (getT p113.2.1 7), (getT p113.2.1 8), (getT p113.2.1 9), (getT p113.2.1 10), (getT p113.2.1 11), (getT p113.2.1 12), (getT p113.2.1 16), (getT p113.2.1 17), (getT p113.2.1 18)], p123.2)) (
 (loadA (some (some 2)) (getT p113.2.1 8) p123.2).bind fun v125 =>
 (fieldPtr (some (0, 1, 3)) (getT p113.2.1 8)).bind fun v126 =>
 (loadA (some none) v126 p123.2).bind fun v127 =>
 (convA (some (some .u64)) v127).bind fun v128 =>
 (C 12 [v125, (getT p113.2.1 12)] p123.2).bind fun p129 =>
 chkK (sameOpt v127 (loadA (some none) v126 p129.2) && true) (
 (convA (some (some .u64)) p129.1).bind fun v130 =>
 (C 11 [(getT p113.2.1 9), (getT p113.2.1 12), v128] p129.2).bind fun p131 =>
 (binA Tryz.prog .neq 23 (.tmp 254) (.tmp 260) v130 p131.1).bind fun v132 =>
 boolK v132 (
 some (2, [(getT p113.2.1 0), (getT p113.2.1 1), (getT p113.2.1 2), (getT p113.2.1 3), (getT p113.2.1 4), (getT p113.2.1 5), (.bool false), (getT p113.2.1 7), (getT p113.2.1 8), (getT p113.2.1 9), (getT p113.2.1 10), (getT p113.2.1 11), (getT p113.2.1 12), (getT p113.2.1 16), (getT p113.2.1 17), (getT p113.2.1 18)], p131.2)) (
 (binA Tryz.prog .add 3 (.tmp 192) (.const (.int .i64 1)) (getT p113.2.1 12) (.int .i64 1)).bind fun v133 =>
 some (0, [(getT p113.2.1 0), (getT p113.2.1 1), (getT p113.2.1 2), (getT p113.2.1 3), (getT p113.2.1 4), (getT p113.2.1 5), (getT p113.2.1 6), (getT p113.2.1 7), (getT p113.2.1 8), (getT p113.2.1 9), (getT p113.2.1 10), (getT p113.2.1 11), v133, (getT p113.2.1 16), (getT p113.2.1 17), (getT p113.2.1 18)], p131.2))))))) fun m134 =>
 none) (
 some (1, [s1, s2, s3, s4, s5, s6, s14, s15, s16, s17, s18, s25, s29, s150, s151, s152], H))
 
noncomputable def tt3l35b (C : CallF) (vs : List Value) (H : AHeap) : Option (Nat × List Value × AHeap) := tt3l35 C (getT vs 0) (getT vs 1) (getT vs 2) (getT vs 3) (getT vs 4) (getT vs 5) (getT vs 6) (getT vs 7) (getT vs 8) (getT vs 9) (getT vs 10) (getT vs 11) (getT vs 12) (getT vs 13) (getT vs 14) (getT vs 15) H
 
noncomputable def tt3l25 (C : CallF) (s1 s2 s3 s4 s5 s6 s14 s15 s16 s17 s18 s150 s151 s152 : Value) (H : AHeap) : Option (Nat × List Value × AHeap) :=
 (binA Tryz.prog .lss 3 (.tmp 152) (.tmp 151) s152 s151).bind fun v65 =>
 boolK v65 (
 (indexPtr (some (none, 1)) s150 s152).bind fun v66 =>
 (loadA (some none) v66 H).bind fun v67 =>
 (iterL (tt3l28b C) rounds [s1, s2, s3, s4, s5, s6, s14, s15, s16, s17, s18, v67, (.int .u64 0), s150, s151, s152] H).bind fun p90 =>
 natK p90.1 (
 (iterL (tt3l35b C) rounds [(getT p90.2.1 0), (getT p90.2.1 1), (getT p90.2.1 2), (getT p90.2.1 3), (getT p90.2.1 4), (getT p90.2.1 5), (getT p90.2.1 6), (getT p90.2.1 7), (getT p90.2.1 8), (getT p90.2.1 9), (getT p90.2.1 10), (getT p90.2.1 11), (.int .i64 0), (getT p90.2.1 13), (getT p90.2.1 14), (getT p90.2.1 15)] p90.2.2).bind fun p135 =>
 natK p135.1 (
 (binA Tryz.prog .add 3 (.tmp 152) (.const (.int .i64 1)) (getT p135.2.1 15) (.int .i64 1)).bind fun v136 =>
 some (0, [(getT p135.2.1 0), (getT p135.2.1 1), (getT p135.2.1 2), (getT p135.2.1 3), (getT p135.2.1 4), (getT p135.2.1 5), (getT p135.2.1 6), (getT p135.2.1 7), (getT p135.2.1 8), (getT p135.2.1 9), (getT p135.2.1 10), (getT p135.2.1 13), (getT p135.2.1 14), v136], p135.2.2)) fun m137 =>
 natK m137 (
 some (2, [(getT p135.2.1 0), (getT p135.2.1 1), (getT p135.2.1 2), (getT p135.2.1 3), (getT p135.2.1 4), (getT p135.2.1 5), (getT p135.2.1 6), (getT p135.2.1 7), (getT p135.2.1 8), (getT p135.2.1 9), (getT p135.2.1 10), (getT p135.2.1 13), (getT p135.2.1 14), (getT p135.2.1 15)], p135.2.2)) fun m138 =>
 none) fun m139 =>
 natK m139 (
 some (2, [(getT p90.2.1 0), (getT p90.2.1 1), (getT p90.2.1 2), (getT p90.2.1 3), (getT p90.2.1 4), (getT p90.2.1 5), (getT p90.2.1 6), (getT p90.2.1 7), (getT p90.2.1 8), (getT p90.2.1 9), (getT p90.2.1 10), (getT p90.2.1 13), (getT p90.2.1 14), (getT p90.2.1 15)], p90.2.2)) fun m140 =>
 none) (
 some (1, [s1, s2, s3, s4, s5, s6, s14, s15, s16, s17, s18, s150, s151, s152], H))
 
noncomputable def tt3l25b (C : CallF) (vs : List Value) (H : AHeap) : Option (Nat × List Value × AHeap) := tt3l25 C (getT vs 0) (getT vs 1) (getT vs 2) (getT vs 3) (getT vs 4) (getT vs 5) (getT vs 6) (getT vs 7) (getT vs 8) (getT vs 9) (getT vs 10) (getT vs 11) (getT vs 12) (getT vs 13) H
 
noncomputable def tt3l80 (C : CallF) (s1 s2 s3 s4 s5 s14 s15 s16 s36 s37 s39 s41 s42 s43 s44 s45 s46 s48 : Value) (H : AHeap) : Option (Nat × List Value × AHeap) :=
 (binA Tryz.prog .gtr 3 (.tmp 405) (.const (.int .i64 0)) s48 (.int .i64 0)).bind fun v165 =>
 boolK v165 (
 (binA Tryz.prog .add 23 (.tmp 409) (.const (.int .u64 1)) s45 (.int .u64 1)).bind fun v167 =>
 (fieldPtr (some (0, 1, 3)) s16).bind fun v168 =>
 (loadA (some none) v168 H).bind fun v169 =>
 (convA (some (some .u64)) v169).bind fun v170 =>
 (binA Tryz.prog .rem 23 (.tmp 411) (.tmp 414) v167 v170).bind fun v171 =>
 (binA Tryz.prog .eql 23 (.tmp 415) (.const (.int .u64 0)) v171 (.int .u64 0)).bind fun v172 =>
 boolK v172 (
 (binA Tryz.prog .add 3 (.tmp 418) (.tmp 419) s41 s4).bind fun v173 =>
 (minOp [s36, v173]).bind fun v174 =>
 (loadA (some (some 3)) s39 H).bind fun v175 =>
 (C 17 [v175] H).bind fun p176 =>
 (storeA (some 3) s39 p176.1 p176.2).bind fun p177 =>
 (binA Tryz.prog .sub 3 (.tmp 407) (.const (.int .i64 1)) s48 (.int .i64 1)).bind fun v178 =>
 some (0, [s1, s2, s3, s4, s5, s14, s15, s16, s36, s37, s39, v174, s42, s43, s44, v167, s46, v178], p177.2)) (
 (binA Tryz.prog .sub 3 (.tmp 407) (.const (.int .i64 1)) s48 (.int .i64 1)).bind fun v179 =>
 some (0, [s1, s2, s3, s4, s5, s14, s15, s16, s36, s37, s39, s41, s42, s43, s44, v167, s46, v179], H))) (
 some (1, [s1, s2, s3, s4, s5, s14, s15, s16, s36, s37, s39, s41, s42, s43, s44, s45, s46, s48], H))
 
noncomputable def tt3l80b (C : CallF) (vs : List Value) (H : AHeap) : Option (Nat × List Value × AHeap) := tt3l80 C (getT vs 0) (getT vs 1) (getT vs 2) (getT vs 3) (getT vs 4) (getT vs 5) (getT vs 6) (getT vs 7) (getT vs 8) (getT vs 9) (getT vs 10) (getT vs 11) (getT vs 12) (getT vs 13) (getT vs 14) (getT vs 15) (getT vs 16) (getT vs 17) H
 
noncomputable def tt3l97 (C : CallF) (s1 s2 s3 s4 s5 s14 s15 s16 s36 s37 s39 s41 s42 s43 s44 s45 s46 s47 s51 s458 s459 : Value) (H : AHeap) : Option (Nat × List Value × AHeap) :=
 (binA Tryz.prog .lss 3 (.tmp 459) (.tmp 458) s459 s458).bind fun v223 =>
 boolK v223 (
 (binA Tryz.prog .add 3 (.tmp 464) (.tmp 465) s46 s459).bind fun v224 =>
 (convA (some (some .u8)) v224).bind fun v225 =>
 (indexPtr (some (none, 1)) s51 s459).bind fun v226 =>
 (storeA (some 1) v226 v225 H).bind fun p227 =>
 (binA Tryz.prog .add 3 (.tmp 459) (.const (.int .i64 1)) s459 (.int .i64 1)).bind fun v228 =>
 some (0, [s1, s2, s3, s4, s5, s14, s15, s16, s36, s37, s39, s41, s42, s43, s44, s45, s46, s47, s51, s458, v228], p227.2)) (
 some (1, [s1, s2, s3, s4, s5, s14, s15, s16, s36, s37, s39, s41, s42, s43, s44, s45, s46, s47, s51, s458, s459], H))
 
noncomputable def tt3l97b (C : CallF) (vs : List Value) (H : AHeap) : Option (Nat × List Value × AHeap) := tt3l97 C (getT vs 0) (getT vs 1) (getT vs 2) (getT vs 3) (getT vs 4) (getT vs 5) (getT vs 6) (getT vs 7) (getT vs 8) (getT vs 9) (getT vs 10) (getT vs 11) (getT vs 12) (getT vs 13) (getT vs 14) (getT vs 15) (getT vs 16) (getT vs 17) (getT vs 18) (getT vs 19) (getT vs 20) H
 
noncomputable def tt3j252 (C : CallF) (s1 s2 s3 s4 s5 s14 s15 s16 s36 s37 s39 s41 s42 s43 s44 s45 s46 s51 s53 s54 : Value) (H : AHeap) : Option (Nat × List Value × AHeap) :=
 (buildSliceA (some (1, 1, [(.int .u8 0)])) 0 []).bind fun p235 =>
 (appendA (some (1, 1)) (p235.2 H.next) s51 (H.push p235.1)).bind fun p236 =>
 (C 19 [s37, p236.1, s53] p236.2).bind fun p237 =>
 (binA Tryz.prog .neq 46 (.tmp 517) (.tmp 518) p237.1 s54).bind fun v238 =>
 boolK v238 (
 some (2, [s1, s2, s3, s4, s5, (.bool false), s15, s16, s36, s37, s39, s41, s42, s43, s44, s45, s46], p237.2)) (
 (fieldPtr (some (2, 1, 3)) s39).bind fun v240 =>
 (loadA (some none) v240 p237.2).bind fun v241 =>
 (binA Tryz.prog .neq 3 (.tmp 525) (.tmp 526) v241 s41).bind fun v242 =>
 boolK v242 (
 some (2, [s1, s2, s3, s4, s5, (.bool false), s15, s16, s36, s37, s39, s41, s42, s43, s44, s45, s46], p237.2)) (
 (C 22 [s37] p237.2).bind fun p243 =>
 (lenA 2 none s43).bind fun v244 =>
 (binA Tryz.prog .neq 3 (.tmp 530) (.tmp 532) p243.1 v244).bind fun v245 =>
 boolK v245 (
 some (2, [s1, s2, s3, s4, s5, (.bool false), s15, s16, s36, s37, s39, s41, s42, s43, s44, s45, s46], p243.2)) (
 (C 23 [s37] p243.2).bind fun p246 =>
 (binA Tryz.prog .neq 23 (.tmp 537) (.tmp 538) p246.1 s42).bind fun v247 =>
 boolK v247 (
 some (2, [s1, s2, s3, s4, s5, (.bool false), s15, s16, s36, s37, s39, s41, s42, s43, s44, s45, s46], p246.2)) (
 (loadA (some (some 3)) s39 p246.2).bind fun v248 =>
 (C 24 [v248] p246.2).bind fun p249 =>
 (unA .not p249.1).bind fun v250 =>
 boolK v250 (
 some (2, [s1, s2, s3, s4, s5, (.bool false), s15, s16, s36, s37, s39, s41, s42, s43, s44, s45, s46], p249.2)) (
 (binA Tryz.prog .add 3 (.tmp 328) (.const (.int .i64 1)) s46 (.int .i64 1)).bind fun v251 =>
 some (0, [s1, s2, s3, s4, s5, s14, s15, s16, s36, s37, s39, s41, s42, s43, s44, s45, v251], p249.2))))))
 
noncomputable def tt3j265 (C : CallF) (s1 s2 s3 s4 s5 s14 s15 s16 s36 s37 s39 s41 s42 s43 s44 s45 s46 s51 s53 s54 s496 : Value) (H : AHeap) : Option (Nat × List Value × AHeap) :=
 boolK s496 (
 tt3j252 C s1 s2 s3 s4 s5 s14 s15 s16 s36 s37 s39 s41 s42 s43 s44 s45 s46 s51 s53 (.int .i64 5) H) (
 (lenA 2 none s43).bind fun v258 =>
 (binA Tryz.prog .eql 3 (.tmp 507) (.tmp 508) v258 s2).bind fun v259 =>
 boolK v259 (
 (binA Tryz.prog .add 23 (.tmp 510) (.const (.int .u64 1)) s42 (.int .u64 1)).bind fun v260 =>
 tt3j252 C s1 s2 s3 s4 s5 s14 s15 s16 s36 s37 s39 s41 v260 s43 s44 s45 s46 s51 s53 s54 H) (
 (buildSliceA (some (1, 24, [(.slice none 0 0)])) 1 [(0, s51)]).bind fun p261 =>
 (appendA (some (1, 24)) s43 (p261.2 H.next) (H.push p261.1)).bind fun p262 =>
 (buildSliceA (some (1, 8, [(.int .u64 0)])) 1 [(0, s53)]).bind fun p263 =>
 (appendA (some (1, 8)) s44 (p263.2 p262.2.next) (p262.2.push p263.1)).bind fun p264 =>
 tt3j252 C s1 s2 s3 s4 s5 s14 s15 s16 s36 s37 s39 s41 s42 p262.1 p264.1 s45 s46 s51 s53 s54 p264.2))
 
noncomputable def tt3j270 (C : CallF) (s1 s2 s3 s4 s5 s14 s15 s16 s36 s37 s39 s41 s42 s43 s44 s45 s46 s47 s49 s50 : Value) (H : AHeap) : Option (Nat × List Value × AHeap) :=
 (unA .not s50).bind fun v200 =>
 boolK v200 (
 (fieldPtr (some (2, 1, 3)) s39).bind fun v202 =>
 (loadA (some none) v202 H).bind fun v203 =>
 (binA Tryz.prog .neq 3 (.tmp 525) (.tmp 526) v203 s41).bind fun v204 =>
 boolK v204 (
 some (2, [s1, s2, s3, s4, s5, (.bool false), s15, s16, s36, s37, s39, s41, s42, s43, s44, s45, s46], H)) (
 (C 22 [s37] H).bind fun p205 =>
 (lenA 2 none s43).bind fun v206 =>
 (binA Tryz.prog .neq 3 (.tmp 530) (.tmp 532) p205.1 v206).bind fun v207 =>
 boolK v207 (
 some (2, [s1, s2, s3, s4, s5, (.bool false), s15, s16, s36, s37, s39, s41, s42, s43, s44, s45, s46], p205.2)) (
 (C 23 [s37] p205.2).bind fun p208 =>
 (binA Tryz.prog .neq 23 (.tmp 537) (.tmp 538) p208.1 s42).bind fun v209 =>
 boolK v209 (
 some (2, [s1, s2, s3, s4, s5, (.bool false), s15, s16, s36, s37, s39, s41, s42, s43, s44, s45, s46], p208.2)) (
 (loadA (some (some 3)) s39 p208.2).bind fun v210 =>
 (C 24 [v210] p208.2).bind fun p211 =>
 (unA .not p211.1).bind fun v212 =>
 boolK v212 (
 some (2, [s1, s2, s3, s4, s5, (.bool false), s15, s16, s36, s37, s39, s41, s42, s43, s44, s45, s46], p211.2)) (
 (binA Tryz.prog .add 3 (.tmp 328) (.const (.int .i64 1)) s46 (.int .i64 1)).bind fun v213 =>
 some (0, [s1, s2, s3, s4, s5, s14, s15, s16, s36, s37, s39, s41, s42, s43, s44, s45, v213], p211.2)))))) (
 (binA Tryz.prog .sub 3 (.tmp 448) (.const (.int .i64 1)) s41 (.int .i64 1)).bind fun v214 =>
 (loadA (some (some 3)) s49 H).bind fun v215 =>
 (storeA (some 3) s39 v215 H).bind fun p216 =>
 (fieldPtr (some (2, 1, 3)) s47).bind fun v217 =>
 (loadA (some none) v217 p216.2).bind fun v218 =>
 (binA Tryz.prog .add 3 (.tmp 453) (.const (.int .i64 2)) s3 (.int .i64 2)).bind fun v219 =>
 (C 5 [v218, v219] p216.2).bind fun p220 =>
 (makeSliceA (some (1, 1, [(.int .u8 0)])) p220.1 p220.1).bind fun p221 =>
 (lenA 2 none (p221.2 p220.2.next)).bind fun v222 =>
 (iterL (tt3l97b C) rounds [s1, s2, s3, s4, s5, s14, s15, s16, s36, s37, s39, v214, s42, s43, s44, s45, s46, s47, (p221.2 p220.2.next), v222, (.int .i64 0)] (p220.2.push p221.1)).bind fun p229 =>
 natK p229.1 (
 (fieldPtr (some (3, 1, 3)) (getT p229.2.1 17)).bind fun v230 =>
 (loadA (some none) v230 p229.2.2).bind fun v231 =>
 (C 5 [v231, (.int .i64 3)] p229.2.2).bind fun p232 =>
 (convA (some (some .u64)) p232.1).bind fun v233 =>
 (binA Tryz.prog .sub 23 (.tmp 470) (.tmp 474) (getT p229.2.1 15) v233).bind fun v234 =>
 (lenA 2 none (getT p229.2.1 18)).bind fun v253 =>
 (binA Tryz.prog .gtr 3 (.tmp 486) (.tmp 487) v253 (getT p229.2.1 2)).bind fun v254 =>
 boolK v254 (
 tt3j252 C (getT p229.2.1 0) (getT p229.2.1 1) (getT p229.2.1 2) (getT p229.2.1 3) (getT p229.2.1 4) (getT p229.2.1 5) (getT p229.2.1 6) (getT p229.2.1 7) (getT p229.2.1 8) (getT p229.2.1 9) (getT p229.2.1 10) (getT p229.2.1 11) (getT p229.2.1 12) (getT p229.2.1 13) (getT p229.2.1 14) (getT p229.2.1 15) (getT p229.2.1 16) (getT p229.2.1 18) v234 (.int .i64 1) p232.2) (
 (binA Tryz.prog .eql 3 (.tmp 490) (.const (.int .i64 0)) (getT p229.2.1 0) (.int .i64 0)).bind fun v255 =>
 boolK v255 (
 (buildSliceA (some (1, 24, [(.slice none 0 0)])) 1 [(0, (getT p229.2.1 18))]).bind fun p256 =>
 (buildSliceA (some (1, 8, [(.int .u64 0)])) 1 [(0, v234)]).bind fun p257 =>
 tt3j252 C (getT p229.2.1 0) (getT p229.2.1 1) (getT p229.2.1 2) (getT p229.2.1 3) (getT p229.2.1 4) (getT p229.2.1 5) (getT p229.2.1 6) (getT p229.2.1 7) (getT p229.2.1 8) (getT p229.2.1 9) (getT p229.2.1 10) (getT p229.2.1 11) (getT p229.2.1 12) (p256.2 p232.2.next) (p257.2 (p232.2.push p256.1).next) (getT p229.2.1 15) (getT p229.2.1 16) (getT p229.2.1 18) v234 (.int .i64 0) ((p232.2.push p256.1).push p257.1)) (
 (lenA 2 none (getT p229.2.1 13)).bind fun v266 =>
 (binA Tryz.prog .eql 3 (.tmp 498) (.tmp 499) v266 (getT p229.2.1 1)).bind fun v267 =>
 boolK v267 (
 (binA Tryz.prog .eql 3 (.tmp 502) (.const (.int .i64 1)) (getT p229.2.1 0) (.int .i64 1)).bind fun v268 =>
 tt3j265 C (getT p229.2.1 0) (getT p229.2.1 1) (getT p229.2.1 2) (getT p229.2.1 3) (getT p229.2.1 4) (getT p229.2.1 5) (getT p229.2.1 6) (getT p229.2.1 7) (getT p229.2.1 8) (getT p229.2.1 9) (getT p229.2.1 10) (getT p229.2.1 11) (getT p229.2.1 12) (getT p229.2.1 13) (getT p229.2.1 14) (getT p229.2.1 15) (getT p229.2.1 16) (getT p229.2.1 18) v234 (.int .i64 0) v268 p232.2) (
 tt3j265 C (getT p229.2.1 0) (getT p229.2.1 1) (getT p229.2.1 2) (getT p229.2.1 3) (getT p229.2.1 4) (getT p229.2.1 5) (getT p229.2.1 6) (getT p229.2.1 7) (getT p229.2.1 8) (getT p229.2.1 9) (getT p229.2.1 10) (getT p229.2.1 11) (getT p229.2.1 12) (getT p229.2.1 13) (getT p229.2.1 14) (getT p229.2.1 15) (getT p229.2.1 16) (getT p229.2.1 18) v234 (.int .i64 0) (.bool false) p232.2)))) fun m269 =>
 none)
 
noncomputable def tt3j319 (C : CallF) (s1 s2 s3 s4 s5 s14 s15 s16 s36 s37 s39 s41 s42 s43 s44 s45 s46 s363 : Value) (H : AHeap) : Option (Nat × List Value × AHeap) :=
 boolK s363 (
 some (2, [s1, s2, s3, s4, s5, (.bool false), s15, s16, s36, s37, s39, s41, s42, s43, s44, s45, s46], H)) (
 (fieldPtr (some (2, 1, 3)) s39).bind fun v307 =>
 (loadA (some none) v307 H).bind fun v308 =>
 (binA Tryz.prog .neq 3 (.tmp 525) (.tmp 526) v308 s41).bind fun v309 =>
 boolK v309 (
 some (2, [s1, s2, s3, s4, s5, (.bool false), s15, s16, s36, s37, s39, s41, s42, s43, s44, s45, s46], H)) (
 (C 22 [s37] H).bind fun p310 =>
 (lenA 2 none s43).bind fun v311 =>
 (binA Tryz.prog .neq 3 (.tmp 530) (.tmp 532) p310.1 v311).bind fun v312 =>
 boolK v312 (
 some (2, [s1, s2, s3, s4, s5, (.bool false), s15, s16, s36, s37, s39, s41, s42, s43, s44, s45, s46], p310.2)) (
 (C 23 [s37] p310.2).bind fun p313 =>
 (binA Tryz.prog .neq 23 (.tmp 537) (.tmp 538) p313.1 s42).bind fun v314 =>
 boolK v314 (
 some (2, [s1, s2, s3, s4, s5, (.bool false), s15, s16, s36, s37, s39, s41, s42, s43, s44, s45, s46], p313.2)) (
 (loadA (some (some 3)) s39 p313.2).bind fun v315 =>
 (C 24 [v315] p313.2).bind fun p316 =>
 (unA .not p316.1).bind fun v317 =>
 boolK v317 (
 some (2, [s1, s2, s3, s4, s5, (.bool false), s15, s16, s36, s37, s39, s41, s42, s43, s44, s45, s46], p316.2)) (
 (binA Tryz.prog .add 3 (.tmp 328) (.const (.int .i64 1)) s46 (.int .i64 1)).bind fun v318 =>
 some (0, [s1, s2, s3, s4, s5, s14, s15, s16, s36, s37, s39, s41, s42, s43, s44, s45, v318], p316.2))))))
 
noncomputable def tt3j353 (C : CallF) (s1 s2 s3 s4 s5 s14 s15 s16 s36 s37 s39 s41 s42 s43 s44 s45 s46 s389 : Value) (H : AHeap) : Option (Nat × List Value × AHeap) :=
 boolK s389 (
 some (2, [s1, s2, s3, s4, s5, (.bool false), s15, s16, s36, s37, s39, s41, s42, s43, s44, s45, s46], H)) (
 (binA Tryz.prog .neq 3 (.tmp 390) (.const (.int .i64 0)) s1 (.int .i64 0)).bind fun v324 =>
 boolK v324 (
 (sliceA 2 (some (none, 1)) s43 (some (.int .i64 1)) none none).bind fun v325 =>
 (sliceA 2 (some (none, 1)) s44 (some (.int .i64 1)) none none).bind fun v326 =>
 (fieldPtr (some (2, 1, 3)) s39).bind fun v328 =>
 (loadA (some none) v328 H).bind fun v329 =>
 (binA Tryz.prog .neq 3 (.tmp 525) (.tmp 526) v329 s41).bind fun v330 =>
 boolK v330 (
 some (2, [s1, s2, s3, s4, s5, (.bool false), s15, s16, s36, s37, s39, s41, s42, v325, v326, s45, s46], H)) (
 (C 22 [s37] H).bind fun p331 =>
 (lenA 2 none v325).bind fun v332 =>
 (binA Tryz.prog .neq 3 (.tmp 530) (.tmp 532) p331.1 v332).bind fun v333 =>
 boolK v333 (
 some (2, [s1, s2, s3, s4, s5, (.bool false), s15, s16, s36, s37, s39, s41, s42, v325, v326, s45, s46], p331.2)) (
 (C 23 [s37] p331.2).bind fun p334 =>
 (binA Tryz.prog .neq 23 (.tmp 537) (.tmp 538) p334.1 s42).bind fun v335 =>
 boolK v335 (
 some (2, [s1, s2, s3, s4, s5, (.bool false), s15, s16, s36, s37, s39, s41, s42, v325, v326, s45, s46], p334.2)) (
 (loadA (some (some 3)) s39 p334.2).bind fun v336 =>
 (C 24 [v336] p334.2).bind fun p337 =>
 (unA .not p337.1).bind fun v338 =>
 boolK v338 (
 some (2, [s1, s2, s3, s4, s5, (.bool false), s15, s16, s36, s37, s39, s41, s42, v325, v326, s45, s46], p337.2)) (
 (binA Tryz.prog .add 3 (.tmp 328) (.const (.int .i64 1)) s46 (.int .i64 1)).bind fun v339 =>
 some (0, [s1, s2, s3, s4, s5, s14, s15, s16, s36, s37, s39, s41, s42, v325, v326, s45, v339], p337.2)))))) (
 (fieldPtr (some (2, 1, 3)) s39).bind fun v341 =>
 (loadA (some none) v341 H).bind fun v342 =>
 (binA Tryz.prog .neq 3 (.tmp 525) (.tmp 526) v342 s41).bind fun v343 =>
 boolK v343 (
 some (2, [s1, s2, s3, s4, s5, (.bool false), s15, s16, s36, s37, s39, s41, s42, s43, s44, s45, s46], H)) (
 (C 22 [s37] H).bind fun p344 =>
 (lenA 2 none s43).bind fun v345 =>
 (binA Tryz.prog .neq 3 (.tmp 530) (.tmp 532) p344.1 v345).bind fun v346 =>
 boolK v346 (
 some (2, [s1, s2, s3, s4, s5, (.bool false), s15, s16, s36, s37, s39, s41, s42, s43, s44, s45, s46], p344.2)) (
 (C 23 [s37] p344.2).bind fun p347 =>
 (binA Tryz.prog .neq 23 (.tmp 537) (.tmp 538) p347.1 s42).bind fun v348 =>
 boolK v348 (
 some (2, [s1, s2, s3, s4, s5, (.bool false), s15, s16, s36, s37, s39, s41, s42, s43, s44, s45, s46], p347.2)) (
 (loadA (some (some 3)) s39 p347.2).bind fun v349 =>
 (C 24 [v349] p347.2).bind fun p350 =>
 (unA .not p350.1).bind fun v351 =>
 boolK v351 (
 some (2, [s1, s2, s3, s4, s5, (.bool false), s15, s16, s36, s37, s39, s41, s42, s43, s44, s45, s46], p350.2)) (
 (binA Tryz.prog .add 3 (.tmp 328) (.const (.int .i64 1)) s46 (.int .i64 1)).bind fun v352 =>
 some (0, [s1, s2, s3, s4, s5, s14, s15, s16, s36, s37, s39, s41, s42, s43, s44, s45, v352], p350.2)))))))
 
noncomputable def tt3j361 (C : CallF) (s1 s2 s3 s4 s5 s14 s15 s16 s36 s37 s39 s41 s42 s43 s44 s45 s46 s56 s57 s58 s59 : Value) (H : AHeap) : Option (Nat × List Value × AHeap) :=
 (binA Tryz.prog .neq 46 (.tmp 374) (.const (.int .i64 0)) s58 (.int .i64 0)).bind fun v354 =>
 boolK v354 (
 tt3j353 C s1 s2 s3 s4 s5 s14 s15 s16 s36 s37 s39 s41 s42 s43 s44 s45 s46 (.bool true) H) (
 (strOfA true s56 H).bind fun v355 =>
 (indexPtr (some (none, 1)) s43 (.int .i64 0)).bind fun v356 =>
 (loadA (some none) v356 H).bind fun v357 =>
 (strOfA true v357 H).bind fun v358 =>
 (binA Tryz.prog .neq 9 (.tmp 378) (.tmp 382) v355 v358).bind fun v359 =>
 boolK v359 (
 tt3j353 C s1 s2 s3 s4 s5 s14 s15 s16 s36 s37 s39 s41 s42 s43 s44 s45 s46 (.bool true) H) (
 (binA Tryz.prog .neq 23 (.tmp 386) (.tmp 387) s57 s59).bind fun v360 =>
 tt3j353 C s1 s2 s3 s4 s5 s14 s15 s16 s36 s37 s39 s41 s42 s43 s44 s45 s46 v360 H))
 
noncomputable def tt3j368 (C : CallF) (s1 s2 s3 s4 s5 s14 s15 s16 s36 s37 s39 s41 s42 s43 s44 s45 s46 s47 s336 s424 : Value) (H : AHeap) : Option (Nat × List Value × AHeap) :=
 boolK s424 (
 (loadA (some (some 3)) s39 H).bind fun v195 =>
 (C 18 [v195] H).bind fun p196 =>
 (extractA p196.1 0).bind fun v197 =>
 (extractA p196.1 1).bind fun v198 =>
 (storeA (some 3) (.pointer (some ⟨p196.2.next, 0, none⟩)) v197 (p196.2.push (.cells [(.int .i64 0), (.int .i64 0), (.int .i64 0)]))).bind fun p199 =>
 (binA Tryz.prog .gtr 3 (.tmp 434) (.const (.int .i64 0)) s41 (.int .i64 0)).bind fun v271 =>
 (binA Tryz.prog .neq 4 (.tmp 433) (.tmp 435) v198 v271).bind fun v272 =>
 boolK v272 (
 boolK undef (
 (loadA (some (some 3)) (.pointer (some ⟨p196.2.next, 0, none⟩)) p199.2).bind fun v273 =>
 (loadA (some (some 3)) s39 p199.2).bind fun v274 =>
 (binA Tryz.prog .neq 50 (.tmp 441) (.tmp 442) v273 v274).bind fun v275 =>
 some (2, [s1, s2, s3, s4, s5, (.bool false), s15, s16, s36, s37, s39, s41, s42, s43, s44, s45, s46], p199.2)) (
 some (2, [s1, s2, s3, s4, s5, (.bool false), s15, s16, s36, s37, s39, s41, s42, s43, s44, s45, s46], p199.2))) (
 (unA .not v198).bind fun v276 =>
 boolK v276 (
 (loadA (some (some 3)) (.pointer (some ⟨p196.2.next, 0, none⟩)) p199.2).bind fun v277 =>
 (loadA (some (some 3)) s39 p199.2).bind fun v278 =>
 (binA Tryz.prog .neq 50 (.tmp 441) (.tmp 442) v277 v278).bind fun v279 =>
 boolK v279 (
 some (2, [s1, s2, s3, s4, s5, (.bool false), s15, s16, s36, s37, s39, s41, s42, s43, s44, s45, s46], p199.2)) (
 tt3j270 C s1 s2 s3 s4 s5 s14 s15 s16 s36 s37 s39 s41 s42 s43 s44 s45 s46 s47 (.pointer (some ⟨p196.2.next, 0, none⟩)) v198 p199.2)) (
 tt3j270 C s1 s2 s3 s4 s5 s14 s15 s16 s36 s37 s39 s41 s42 s43 s44 s45 s46 s47 (.pointer (some ⟨p196.2.next, 0, none⟩)) v198 p199.2))) (
 (binA Tryz.prog .eql 3 (.tmp 336) (.const (.int .i64 4)) s336 (.int .i64 4)).bind fun v280 =>
 boolK v280 (
 (C 20 [s37] H).bind fun p281 =>
 (fieldPtr (some (2, 1, 3)) s39).bind fun v283 =>
 (loadA (some none) v283 p281.2).bind fun v284 =>
 (binA Tryz.prog .neq 3 (.tmp 525) (.tmp 526) v284 s41).bind fun v285 =>
 boolK v285 (
 some (2, [s1, s2, s3, s4, s5, (.bool false), s15, s16, s36, p281.1, s39, s41, s42, s43, s44, s45, s46], p281.2)) (
 (C 22 [p281.1] p281.2).bind fun p286 =>
 (lenA 2 none s43).bind fun v287 =>
 (binA Tryz.prog .neq 3 (.tmp 530) (.tmp 532) p286.1 v287).bind fun v288 =>
 boolK v288 (
 some (2, [s1, s2, s3, s4, s5, (.bool false), s15, s16, s36, p281.1, s39, s41, s42, s43, s44, s45, s46], p286.2)) (
 (C 23 [p281.1] p286.2).bind fun p289 =>
 (binA Tryz.prog .neq 23 (.tmp 537) (.tmp 538) p289.1 s42).bind fun v290 =>
 boolK v290 (
 some (2, [s1, s2, s3, s4, s5, (.bool false), s15, s16, s36, p281.1, s39, s41, s42, s43, s44, s45, s46], p289.2)) (
 (loadA (some (some 3)) s39 p289.2).bind fun v291 =>
 (C 24 [v291] p289.2).bind fun p292 =>
 (unA .not p292.1).bind fun v293 =>
 boolK v293 (
 some (2, [s1, s2, s3, s4, s5, (.bool false), s15, s16, s36, p281.1, s39, s41, s42, s43, s44, s45, s46], p292.2)) (
 (binA Tryz.prog .add 3 (.tmp 328) (.const (.int .i64 1)) s46 (.int .i64 1)).bind fun v294 =>
 some (0, [s1, s2, s3, s4, s5, s14, s15, s16, s36, p281.1, s39, s41, s42, s43, s44, s45, v294], p292.2)))))) (
 (fieldPtr (some (3, 1, 3)) s47).bind fun v295 =>
 (loadA (some none) v295 H).bind fun v296 =>
 (C 5 [v296, (.int .i64 3)] H).bind fun p297 =>
 (convA (some (some .u64)) p297.1).bind fun v298 =>
 (binA Tryz.prog .sub 23 (.tmp 337) (.tmp 341) s45 v298).bind fun v299 =>
 (C 21 [s37, v299] p297.2).bind fun p300 =>
 (extractA p300.1 0).bind fun v301 =>
 (extractA p300.1 1).bind fun v302 =>
 (extractA p300.1 2).bind fun v303 =>
 (lenA 2 none s43).bind fun v304 =>
 (binA Tryz.prog .eql 3 (.tmp 351) (.const (.int .i64 0)) v304 (.int .i64 0)).bind fun v305 =>
 boolK v305 (
 (binA Tryz.prog .neq 46 (.tmp 353) (.const (.int .i64 6)) v303 (.int .i64 6)).bind fun v320 =>
 boolK v320 (
 tt3j319 C s1 s2 s3 s4 s5 s14 s15 s16 s36 s37 s39 s41 s42 s43 s44 s45 s46 (.bool true) p300.2) (
 (binA Tryz.prog .neq 23 (.tmp 356) (.const (.int .u64 0)) v302 (.int .u64 0)).bind fun v321 =>
 boolK v321 (
 tt3j319 C s1 s2 s3 s4 s5 s14 s15 s16 s36 s37 s39 s41 s42 s43 s44 s45 s46 (.bool true) p300.2) (
 (lenA 2 none v301).bind fun v322 =>
 (binA Tryz.prog .neq 3 (.tmp 361) (.const (.int .i64 0)) v322 (.int .i64 0)).bind fun v323 =>
 tt3j319 C s1 s2 s3 s4 s5 s14 s15 s16 s36 s37 s39 s41 s42 s43 s44 s45 s46 v323 p300.2))) (
 (indexPtr (some (none, 1)) s44 (.int .i64 0)).bind fun v362 =>
 (loadA (some none) v362 p300.2).bind fun v363 =>
 (binA Tryz.prog .gtr 23 (.tmp 364) (.tmp 367) v299 v363).bind fun v364 =>
 boolK v364 (
 (indexPtr (some (none, 1)) s44 (.int .i64 0)).bind fun v365 =>
 (loadA (some none) v365 p300.2).bind fun v366 =>
 (binA Tryz.prog .sub 23 (.tmp 369) (.tmp 372) v299 v366).bind fun v367 =>
 tt3j361 C s1 s2 s3 s4 s5 s14 s15 s16 s36 s37 s39 s41 s42 s43 s44 s45 s46 v301 v302 v303 v367 p300.2) (
 tt3j361 C s1 s2 s3 s4 s5 s14 s15 s16 s36 s37 s39 s41 s42 s43 s44 s45 s46 v301 v302 v303 (.int .u64 0) p300.2))))
 
noncomputable def tt3j372 (C : CallF) (s1 s2 s3 s4 s5 s14 s15 s16 s36 s37 s39 s41 s42 s43 s44 s45 s46 s327 : Value) (H : AHeap) : Option (Nat × List Value × AHeap) :=
 boolK s327 (
 (indexPtr (some (none, 4)) s5 s46).bind fun v151 =>
 (loadA (some (some 4)) v151 H).bind fun v152 =>
 (storeA (some 4) (.pointer (some ⟨H.next, 0, none⟩)) v152 (H.push (.cells [(.int .i64 0), (.int .i64 0), (.int .i64 0), (.int .i64 0)]))).bind fun p153 =>
 (fieldPtr (some (0, 1, 3)) (.pointer (some ⟨H.next, 0, none⟩))).bind fun v154 =>
 (loadA (some none) v154 p153.2).bind fun v155 =>
 (C 5 [v155, (.int .i64 6)] p153.2).bind fun p156 =>
 (binA Tryz.prog .eql 3 (.tmp 336) (.const (.int .i64 0)) p156.1 (.int .i64 0)).bind fun v157 =>
 boolK v157 (
 (fieldPtr (some (1, 1, 3)) (.pointer (some ⟨H.next, 0, none⟩))).bind fun v158 =>
 (loadA (some none) v158 p156.2).bind fun v159 =>
 (fieldPtr (some (0, 1, 3)) s16).bind fun v160 =>
 (loadA (some none) v160 p156.2).bind fun v161 =>
 (binA Tryz.prog .mul 3 (.const (.int .i64 2)) (.tmp 401) (.int .i64 2) v161).bind fun v162 =>
 (binA Tryz.prog .add 3 (.tmp 402) (.const (.int .i64 1)) v162 (.int .i64 1)).bind fun v163 =>
 (C 5 [v159, v163] p156.2).bind fun p164 =>
 (iterL (tt3l80b C) rounds [s1, s2, s3, s4, s5, s14, s15, s16, s36, s37, s39, s41, s42, s43, s44, s45, s46, p164.1] p164.2).bind fun p180 =>
 natK p180.1 (
 (fieldPtr (some (2, 1, 3)) (getT p180.2.1 10)).bind fun v182 =>
 (loadA (some none) v182 p180.2.2).bind fun v183 =>
 (binA Tryz.prog .neq 3 (.tmp 525) (.tmp 526) v183 (getT p180.2.1 11)).bind fun v184 =>
 boolK v184 (
 some (2, [(getT p180.2.1 0), (getT p180.2.1 1), (getT p180.2.1 2), (getT p180.2.1 3), (getT p180.2.1 4), (.bool false), (getT p180.2.1 6), (getT p180.2.1 7), (getT p180.2.1 8), (getT p180.2.1 9), (getT p180.2.1 10), (getT p180.2.1 11), (getT p180.2.1 12), (getT p180.2.1 13), (getT p180.2.1 14), (getT p180.2.1 15), (getT p180.2.1 16)], p180.2.2)) (
 (C 22 [(getT p180.2.1 9)] p180.2.2).bind fun p185 =>
 (lenA 2 none (getT p180.2.1 13)).bind fun v186 =>
 (binA Tryz.prog .neq 3 (.tmp 530) (.tmp 532) p185.1 v186).bind fun v187 =>
 boolK v187 (
 some (2, [(getT p180.2.1 0), (getT p180.2.1 1), (getT p180.2.1 2), (getT p180.2.1 3), (getT p180.2.1 4), (.bool false), (getT p180.2.1 6), (getT p180.2.1 7), (getT p180.2.1 8), (getT p180.2.1 9), (getT p180.2.1 10), (getT p180.2.1 11), (getT p180.2.1 12), (getT p180.2.1 13), (getT p180.2.1 14), (getT p180.2.1 15), (getT p180.2.1 16)], p185.2)) (
 (C 23 [(getT p180.2.1 9)] p185.2).bind fun p188 =>
 (binA Tryz.prog .neq 23 (.tmp 537) (.tmp 538) p188.1 (getT p180.2.1 12)).bind fun v189 =>
 boolK v189 (
 some (2, [(getT p180.2.1 0), (getT p180.2.1 1), (getT p180.2.1 2), (getT p180.2.1 3), (getT p180.2.1 4), (.bool false), (getT p180.2.1 6), (getT p180.2.1 7), (getT p180.2.1 8), (getT p180.2.1 9), (getT p180.2.1 10), (getT p180.2.1 11), (getT p180.2.1 12), (getT p180.2.1 13), (getT p180.2.1 14), (getT p180.2.1 15), (getT p180.2.1 16)], p188.2)) (
 (loadA (some (some 3)) (getT p180.2.1 10) p188.2).bind fun v190 =>
 (C 24 [v190] p188.2).bind fun p191 =>
 (unA .not p191.1).bind fun v192 =>
 boolK v192 (
 some (2, [(getT p180.2.1 0), (getT p180.2.1 1), (getT p180.2.1 2), (getT p180.2.1 3), (getT p180.2.1 4), (.bool false), (getT p180.2.1 6), (getT p180.2.1 7), (getT p180.2.1 8), (getT p180.2.1 9), (getT p180.2.1 10), (getT p180.2.1 11), (getT p180.2.1 12), (getT p180.2.1 13), (getT p180.2.1 14), (getT p180.2.1 15), (getT p180.2.1 16)], p191.2)) (
 (binA Tryz.prog .add 3 (.tmp 328) (.const (.int .i64 1)) (getT p180.2.1 16) (.int .i64 1)).bind fun v193 =>
 some (0, [(getT p180.2.1 0), (getT p180.2.1 1), (getT p180.2.1 2), (getT p180.2.1 3), (getT p180.2.1 4), (getT p180.2.1 5), (getT p180.2.1 6), (getT p180.2.1 7), (getT p180.2.1 8), (getT p180.2.1 9), (getT p180.2.1 10), (getT p180.2.1 11), (getT p180.2.1 12), (getT p180.2.1 13), (getT p180.2.1 14), (getT p180.2.1 15), v193], p191.2)))))) fun m194 =>
 none) (
 (binA Tryz.prog .eql 3 (.tmp 336) (.const (.int .i64 1)) p156.1 (.int .i64 1)).bind fun v369 =>
 boolK v369 (
 tt3j368 C s1 s2 s3 s4 s5 s14 s15 s16 s36 s37 s39 s41 s42 s43 s44 s45 s46 (.pointer (some ⟨H.next, 0, none⟩)) p156.1 (.bool true) p156.2) (
 (binA Tryz.prog .eql 3 (.tmp 336) (.const (.int .i64 2)) p156.1 (.int .i64 2)).bind fun v370 =>
 boolK v370 (
 tt3j368 C s1 s2 s3 s4 s5 s14 s15 s16 s36 s37 s39 s41 s42 s43 s44 s45 s46 (.pointer (some ⟨H.next, 0, none⟩)) p156.1 (.bool true) p156.2) (
 (binA Tryz.prog .eql 3 (.tmp 336) (.const (.int .i64 3)) p156.1 (.int .i64 3)).bind fun v371 =>
 tt3j368 C s1 s2 s3 s4 s5 s14 s15 s16 s36 s37 s39 s41 s42 s43 s44 s45 s46 (.pointer (some ⟨H.next, 0, none⟩)) p156.1 v371 p156.2)))) (
 some (1, [s1, s2, s3, s4, s5, s14, s15, s16, s36, s37, s39, s41, s42, s43, s44, s45, s46], H))
 
noncomputable def tt3l62 (C : CallF) (s1 s2 s3 s4 s5 s14 s15 s16 s36 s37 s39 s41 s42 s43 s44 s45 s46 : Value) (H : AHeap) : Option (Nat × List Value × AHeap) :=
 (lenA 2 none s5).bind fun v373 =>
 (binA Tryz.prog .lss 3 (.tmp 320) (.tmp 322) s46 v373).bind fun v374 =>
 boolK v374 (
 (binA Tryz.prog .lss 3 (.tmp 325) (.const (.int .i64 80)) s46 (.int .i64 80)).bind fun v375 =>
 tt3j372 C s1 s2 s3 s4 s5 s14 s15 s16 s36 s37 s39 s41 s42 s43 s44 s45 s46 v375 H) (
 tt3j372 C s1 s2 s3 s4 s5 s14 s15 s16 s36 s37 s39 s41 s42 s43 s44 s45 s46 (.bool false) H)
 
noncomputable def tt3l62b (C : CallF) (vs : List Value) (H : AHeap) : Option (Nat × List Value × AHeap) := tt3l62 C (getT vs 0) (getT vs 1) (getT vs 2) (getT vs 3) (getT vs 4) (getT vs 5) (getT vs 6) (getT vs 7) (getT vs 8) (getT vs 9) (getT vs 10) (getT vs 11) (getT vs 12) (getT vs 13) (getT vs 14) (getT vs 15) (getT vs 16) H
 
noncomputable def tt3l18 (C : CallF) (s1 s2 s3 s4 s5 s6 s15 s16 s17 s18 s23 : Value) (H : AHeap) : Option (Nat × List Value × AHeap) :=
 (binA Tryz.prog .gtr 3 (.tmp 129) (.const (.int .i64 0)) s23 (.int .i64 0)).bind fun v405 =>
 boolK v405 (
 (buildSliceA (some (1, 8, [(.int .i64 0)])) 1 [(0, (.int .i64 (-1)))]).bind fun p406 =>
 (appendA (some (1, 8)) s17 (p406.2 H.next) (H.push p406.1)).bind fun p407 =>
 (buildSliceA (some (1, 8, [(.int .i64 0)])) 1 [(0, (.int .i64 (-1)))]).bind fun p408 =>
 (appendA (some (1, 8)) s18 (p408.2 p407.2.next) (p407.2.push p408.1)).bind fun p409 =>
 (binA Tryz.prog .sub 3 (.tmp 131) (.const (.int .i64 1)) s23 (.int .i64 1)).bind fun v410 =>
 some (0, [s1, s2, s3, s4, s5, s6, s15, s16, p407.1, p409.1, v410], p409.2)) (
 some (1, [s1, s2, s3, s4, s5, s6, s15, s16, s17, s18, s23], H))
 
noncomputable def tt3l18b (C : CallF) (vs : List Value) (H : AHeap) : Option (Nat × List Value × AHeap) := tt3l18 C (getT vs 0) (getT vs 1) (getT vs 2) (getT vs 3) (getT vs 4) (getT vs 5) (getT vs 6) (getT vs 7) (getT vs 8) (getT vs 9) (getT vs 10) H
 
noncomputable def tt3_hook (C : CallF) : HookK := fun i => match Nat.beq i 5 with
   | true => some ⟨[.exit 0], [0, 1, 2, 3, 4, 5, 6, 15, 16, 17, 18, 19], tt3l5b C⟩
   | false => match Nat.beq i 9 with
   | true => some ⟨[.exit 2], [0, 1, 2, 3, 4, 5, 6, 15, 16, 17, 18, 19, 20, 21], tt3l9b C⟩
   | false => match Nat.beq i 14 with
   | true => some ⟨[.exit 4], [0, 1, 2, 3, 4, 5, 6, 15, 16, 17, 18, 19, 20, 22], tt3l14b C⟩
   | false => match Nat.beq i 25 with
   | true => some ⟨[.exit 8, .ret], [1, 2, 3, 4, 5, 6, 14, 15, 16, 17, 18, 150, 151, 152], tt3l25b C⟩
   | false => match Nat.beq i 28 with
   | true => some ⟨[.exit 10, .ret], [1, 2, 3, 4, 5, 6, 14, 15, 16, 17, 18, 25, 26, 150, 151, 152], tt3l28b C⟩
   | false => match Nat.beq i 35 with
   | true => some ⟨[.exit 12, .ret], [1, 2, 3, 4, 5, 6, 14, 15, 16, 17, 18, 25, 29, 150, 151, 152], tt3l35b C⟩
   | false => match Nat.beq i 39 with
   | true => some ⟨[.exit 14], [1, 2, 3, 4, 5, 6, 14, 15, 16, 17, 18, 25, 29, 30, 31, 32, 150, 151, 152], tt3l39b C⟩
   | false => match Nat.beq i 62 with
   | true => some ⟨[.exit 16, .ret], [1, 2, 3, 4, 5, 14, 15, 16, 36, 37, 39, 41, 42, 43, 44, 45, 46], tt3l62b C⟩
   | false => match Nat.beq i 80 with
   | true => some ⟨[.exit 19], [1, 2, 3, 4, 5, 14, 15, 16, 36, 37, 39, 41, 42, 43, 44, 45, 46, 48], tt3l80b C⟩
   | false => match Nat.beq i 97 with
   | true => some ⟨[.exit 21], [1, 2, 3, 4, 5, 14, 15, 16, 36, 37, 39, 41, 42, 43, 44, 45, 46, 47, 51, 458, 459], tt3l97b C⟩
   | false => match Nat.beq i 18 with
   | true => some ⟨[.exit 6], [1, 2, 3, 4, 5, 6, 15, 16, 17, 18, 23], tt3l18b C⟩
   | false => none
 
def tt3_loops : List (Nat × List Nat) := [(5, [0, 1, 2, 3, 4, 5, 6, 15, 16, 17, 18, 19]), (9, [0, 1, 2, 3, 4, 5, 6, 15, 16, 17, 18, 19, 20, 21]), (14, [0, 1, 2, 3, 4, 5, 6, 15, 16, 17, 18, 19, 20, 22]), (25, [1, 2, 3, 4, 5, 6, 14, 15, 16, 17, 18, 150, 151, 152]), (28, [1, 2, 3, 4, 5, 6, 14, 15, 16, 17, 18, 25, 26, 150, 151, 152]), (35, [1, 2, 3, 4, 5, 6, 14, 15, 16, 17, 18, 25, 29, 150, 151, 152]), (39, [1, 2, 3, 4, 5, 6, 14, 15, 16, 17, 18, 25, 29, 30, 31, 32, 150, 151, 152]), (62, [1, 2, 3, 4, 5, 14, 15, 16, 36, 37, 39, 41, 42, 43, 44, 45, 46]), (80, [1, 2, 3, 4, 5, 14, 15, 16, 36, 37, 39, 41, 42, 43, 44, 45, 46, 48]), (97, [1, 2, 3, 4, 5, 14, 15, 16, 36, 37, 39, 41, 42, 43, 44, 45, 46, 47, 51, 458, 459]), (18, [1, 2, 3, 4, 5, 6, 15, 16, 17, 18, 23])]
 
def tt3_cuts : List (Nat × List Nat) := [(57, [1, 2, 3, 4, 5, 6, 15, 16, 36, 37, 39]), (55, [1, 2, 3, 4, 5, 6, 15, 16, 36, 37, 38, 39, 40]), (49, [1, 2, 3, 4, 5, 6, 15, 16]), (21, [1, 2, 3, 4, 5, 6, 15, 16, 17, 18])]
 
theorem tt3l9_tie (C : CallF) (vs : List Value) (H : AHeap) : execK C Tryz.prog 553 tt3_cuts (tt3_hook C) (loopN (loopN (codeIn (fnOf Tryz.prog 3)) 0) 0) (frameA vs [0, 1, 2, 3, 4, 5, 6, 15, 16, 17, 18, 19, 20, 21] 0) H (finK [.exit 2] [0, 1, 2, 3, 4, 5, 6, 15, 16, 17, 18, 19, 20, 21]) = tt3l9b C vs H := by kernel_rfl
theorem tt3l9_ok (C : CallF) : LoopOk C Tryz.prog 553 tt3_loops tt3_cuts (tt3_hook C) (loopN (loopN (codeIn (fnOf Tryz.prog 3)) 0) 0) :=
   loop_ok (cutsOk_mem (by kernel_rfl)) ⟨[.exit 2], [0, 1, 2, 3, 4, 5, 6, 15, 16, 17, 18, 19, 20, 21], tt3l9b C⟩ (by kernel_rfl) (by kernel_rfl) (by kernel_rfl) (loops_none (by kernel_rfl)) fun vs H y h => (tt3l9_tie C vs H).trans h
theorem tt3l14_tie (C : CallF) (vs : List Value) (H : AHeap) : execK C Tryz.prog 553 tt3_cuts (tt3_hook C) (loopN (loopN (codeIn (fnOf Tryz.prog 3)) 0) 1) (frameA vs [0, 1, 2, 3, 4, 5, 6, 15, 16, 17, 18, 19, 20, 22] 0) H (finK [.exit 4] [0, 1, 2, 3, 4, 5, 6, 15, 16, 17, 18, 19, 20, 22]) = tt3l14b C vs H := by kernel_rfl
theorem tt3l14_ok (C : CallF) : LoopOk C Tryz.prog 553 tt3_loops tt3_cuts (tt3_hook C) (loopN (loopN (codeIn (fnOf Tryz.prog 3)) 0) 1) :=
   loop_ok (cutsOk_mem (by kernel_rfl)) ⟨[.exit 4], [0, 1, 2, 3, 4, 5, 6, 15, 16, 17, 18, 19, 20, 22], tt3l14b C⟩ (by kernel_rfl) (by kernel_rfl) (by kernel_rfl) (loops_none (by kernel_rfl)) fun vs H y h => (tt3l14_tie C vs H).trans h
theorem tt3l5_tie (C : CallF) (vs : List Value) (H : AHeap) : execK C Tryz.prog 553 tt3_cuts (tt3_hook C) (loopN (codeIn (fnOf Tryz.prog 3)) 0) (frameA vs [0, 1, 2, 3, 4, 5, 6, 15, 16, 17, 18, 19] 0) H (finK [.exit 0] [0, 1, 2, 3, 4, 5, 6, 15, 16, 17, 18, 19]) = tt3l5b C vs H := by kernel_rfl
theorem tt3l5_ok (C : CallF) : LoopOk C Tryz.prog 553 tt3_loops tt3_cuts (tt3_hook C) (loopN (codeIn (fnOf Tryz.prog 3)) 0) :=
   loop_ok (cutsOk_mem (by kernel_rfl)) ⟨[.exit 0], [0, 1, 2, 3, 4, 5, 6, 15, 16, 17, 18, 19], tt3l5b C⟩ (by kernel_rfl) (by kernel_rfl) (by kernel_rfl) (loops_all (l := [loopN (loopN (codeIn (fnOf Tryz.prog 3)) 0) 0, loopN (loopN (codeIn (fnOf Tryz.prog 3)) 0) 1]) (by kernel_rfl) (all_cons (tt3l9_ok C) (all_cons (tt3l14_ok C) all_nil))) fun vs H y h => (tt3l5_tie C vs H).trans h
theorem tt3l18_tie (C : CallF) (vs : List Value) (H : AHeap) : execK C Tryz.prog 553 tt3_cuts (tt3_hook C) (loopN (codeIn (fnOf Tryz.prog 3)) 1) (frameA vs [1, 2, 3, 4, 5, 6, 15, 16, 17, 18, 23] 0) H (finK [.exit 6] [1, 2, 3, 4, 5, 6, 15, 16, 17, 18, 23]) = tt3l18b C vs H := by kernel_rfl
theorem tt3l18_ok (C : CallF) : LoopOk C Tryz.prog 553 tt3_loops tt3_cuts (tt3_hook C) (loopN (codeIn (fnOf Tryz.prog 3)) 1) :=
   loop_ok (cutsOk_mem (by kernel_rfl)) ⟨[.exit 6], [1, 2, 3, 4, 5, 6, 15, 16, 17, 18, 23], tt3l18b C⟩ (by kernel_rfl) (by kernel_rfl) (by kernel_rfl) (loops_none (by kernel_rfl)) fun vs H y h => (tt3l18_tie C vs H).trans h
theorem tt3l28_tie (C : CallF) (vs : List Value) (H : AHeap) : execK C Tryz.prog 553 tt3_cuts (tt3_hook C) (loopN (loopN (codeIn (fnOf Tryz.prog 3)) 2) 0) (frameA vs [1, 2, 3, 4, 5, 6, 14, 15, 16, 17, 18, 25, 26, 150, 151, 152] 0) H (finK [.exit 10, .ret] [1, 2, 3, 4, 5, 6, 14, 15, 16, 17, 18, 25, 26, 150, 151, 152]) = tt3l28b C vs H := by kernel_rfl
theorem tt3l28_ok (C : CallF) : LoopOk C Tryz.prog 553 tt3_loops tt3_cuts (tt3_hook C) (loopN (loopN (codeIn (fnOf Tryz.prog 3)) 2) 0) :=
   loop_ok (cutsOk_mem (by kernel_rfl)) ⟨[.exit 10, .ret], [1, 2, 3, 4, 5, 6, 14, 15, 16, 17, 18, 25, 26, 150, 151, 152], tt3l28b C⟩ (by kernel_rfl) (by kernel_rfl) (by kernel_rfl) (loops_none (by kernel_rfl)) fun vs H y h => (tt3l28_tie C vs H).trans h
theorem tt3l39_tie (C : CallF) (vs : List Value) (H : AHeap) : execK C Tryz.prog 553 tt3_cuts (tt3_hook C) (loopN (loopN (loopN (codeIn (fnOf Tryz.prog 3)) 2) 1) 0) (frameA vs [1, 2, 3, 4, 5, 6, 14, 15, 16, 17, 18, 25, 29, 30, 31, 32, 150, 151, 152] 0) H (finK [.exit 14] [1, 2, 3, 4, 5, 6, 14, 15, 16, 17, 18, 25, 29, 30, 31, 32, 150, 151, 152]) = tt3l39b C vs H := by kernel_rfl
theorem tt3l39_ok (C : CallF) : LoopOk C Tryz.prog 553 tt3_loops tt3_cuts (tt3_hook C) (loopN (loopN (loopN (codeIn (fnOf Tryz.prog 3)) 2) 1) 0) :=
   loop_ok (cutsOk_mem (by kernel_rfl)) ⟨[.exit 14], [1, 2, 3, 4, 5, 6, 14, 15, 16, 17, 18, 25, 29, 30, 31, 32, 150, 151, 152], tt3l39b C⟩ (by kernel_rfl) (by kernel_rfl) (by kernel_rfl) (loops_none (by kernel_rfl)) fun vs H y h => (tt3l39_tie C vs H).trans h
theorem tt3l35_tie (C : CallF) (vs : List Value) (H : AHeap) : execK C Tryz.prog 553 tt3_cuts (tt3_hook C) (loopN (loopN (codeIn (fnOf Tryz.prog 3)) 2) 1) (frameA vs [1, 2, 3, 4, 5, 6, 14, 15, 16, 17, 18, 25, 29, 150, 151, 152] 0) H (finK [.exit 12, .ret] [1, 2, 3, 4, 5, 6, 14, 15, 16, 17, 18, 25, 29, 150, 151, 152]) = tt3l35b C vs H := by kernel_rfl
theorem tt3l35_ok (C : CallF) : LoopOk C Tryz.prog 553 tt3_loops tt3_cuts (tt3_hook C) (loopN (loopN (codeIn (fnOf Tryz.prog 3)) 2) 1) :=
   loop_ok (cutsOk_mem (by kernel_rfl)) ⟨[.exit 12, .ret], [1, 2, 3, 4, 5, 6, 14, 15, 16, 17, 18, 25, 29, 150, 151, 152], tt3l35b C⟩ (by kernel_rfl) (by kernel_rfl) (by kernel_rfl) (loops_all (l := [loopN (loopN (loopN (codeIn (fnOf Tryz.prog 3)) 2) 1) 0]) (by kernel_rfl) (all_cons (tt3l39_ok C) all_nil)) fun vs H y h => (tt3l35_tie C vs H).trans h
theorem tt3l25_tie (C : CallF) (vs : List Value) (H : AHeap) : execK C Tryz.prog 553 tt3_cuts (tt3_hook C) (loopN (codeIn (fnOf Tryz.prog 3)) 2) (frameA vs [1, 2, 3, 4, 5, 6, 14, 15, 16, 17, 18, 150, 151, 152] 0) H (finK [.exit 8, .ret] [1, 2, 3, 4, 5, 6, 14, 15, 16, 17, 18, 150, 151, 152]) = tt3l25b C vs H := by kernel_rfl
theorem tt3l25_ok (C : CallF) : LoopOk C Tryz.prog 553 tt3_loops tt3_cuts (tt3_hook C) (loopN (codeIn (fnOf Tryz.prog 3)) 2) :=
   loop_ok (cutsOk_mem (by kernel_rfl)) ⟨[.exit 8, .ret], [1, 2, 3, 4, 5, 6, 14, 15, 16, 17, 18, 150, 151, 152], tt3l25b C⟩ (by kernel_rfl) (by kernel_rfl) (by kernel_rfl) (loops_all (l := [loopN (loopN (codeIn (fnOf Tryz.prog 3)) 2) 0, loopN (loopN (codeIn (fnOf Tryz.prog 3)) 2) 1]) (by kernel_rfl) (all_cons (tt3l28_ok C) (all_cons (tt3l35_ok C) all_nil))) fun vs H y h => (tt3l25_tie C vs H).trans h
theorem tt3l80_tie (C : CallF) (vs : List Value) (H : AHeap) : execK C Tryz.prog 553 tt3_cuts (tt3_hook C) (loopN (loopN (codeIn (fnOf Tryz.prog 3)) 3) 0) (frameA vs [1, 2, 3, 4, 5, 14, 15, 16, 36, 37, 39, 41, 42, 43, 44, 45, 46, 48] 0) H (finK [.exit 19] [1, 2, 3, 4, 5, 14, 15, 16, 36, 37, 39, 41, 42, 43, 44, 45, 46, 48]) = tt3l80b C vs H := by kernel_rfl
theorem tt3l80_ok (C : CallF) : LoopOk C Tryz.prog 553 tt3_loops tt3_cuts (tt3_hook C) (loopN (loopN (codeIn (fnOf Tryz.prog 3)) 3) 0) :=
   loop_ok (cutsOk_mem (by kernel_rfl)) ⟨[.exit 19], [1, 2, 3, 4, 5, 14, 15, 16, 36, 37, 39, 41, 42, 43, 44, 45, 46, 48], tt3l80b C⟩ (by kernel_rfl) (by kernel_rfl) (by kernel_rfl) (loops_none (by kernel_rfl)) fun vs H y h => (tt3l80_tie C vs H).trans h
theorem tt3l97_tie (C : CallF) (vs : List Value) (H : AHeap) : execK C Tryz.prog 553 tt3_cuts (tt3_hook C) (loopN (loopN (codeIn (fnOf Tryz.prog 3)) 3) 1) (frameA vs [1, 2, 3, 4, 5, 14, 15, 16, 36, 37, 39, 41, 42, 43, 44, 45, 46, 47, 51, 458, 459] 0) H (finK [.exit 21] [1, 2, 3, 4, 5, 14, 15, 16, 36, 37, 39, 41, 42, 43, 44, 45, 46, 47, 51, 458, 459]) = tt3l97b C vs H := by kernel_rfl
theorem tt3l97_ok (C : CallF) : LoopOk C Tryz.prog 553 tt3_loops tt3_cuts (tt3_hook C) (loopN (loopN (codeIn (fnOf Tryz.prog 3)) 3) 1) :=
   loop_ok (cutsOk_mem (by kernel_rfl)) ⟨[.exit 21], [1, 2, 3, 4, 5, 14, 15, 16, 36, 37, 39, 41, 42, 43, 44, 45, 46, 47, 51, 458, 459], tt3l97b C⟩ (by kernel_rfl) (by kernel_rfl) (by kernel_rfl) (loops_none (by kernel_rfl)) fun vs H y h => (tt3l97_tie C vs H).trans h
theorem tt3l62_tie (C : CallF) (vs : List Value) (H : AHeap) : execK C Tryz.prog 553 tt3_cuts (tt3_hook C) (loopN (codeIn (fnOf Tryz.prog 3)) 3) (frameA vs [1, 2, 3, 4, 5, 14, 15, 16, 36, 37, 39, 41, 42, 43, 44, 45, 46] 0) H (finK [.exit 16, .ret] [1, 2, 3, 4, 5, 14, 15, 16, 36, 37, 39, 41, 42, 43, 44, 45, 46]) = tt3l62b C vs H := by kernel_rfl
theorem tt3l62_ok (C : CallF) : LoopOk C Tryz.prog 553 tt3_loops tt3_cuts (tt3_hook C) (loopN (codeIn (fnOf Tryz.prog 3)) 3) :=
   loop_ok (cutsOk_mem (by kernel_rfl)) ⟨[.exit 16, .ret], [1, 2, 3, 4, 5, 14, 15, 16, 36, 37, 39, 41, 42, 43, 44, 45, 46], tt3l62b C⟩ (by kernel_rfl) (by kernel_rfl) (by kernel_rfl) (loops_all (l := [loopN (loopN (codeIn (fnOf Tryz.prog 3)) 3) 0, loopN (loopN (codeIn (fnOf Tryz.prog 3)) 3) 1]) (by kernel_rfl) (all_cons (tt3l80_ok C) (all_cons (tt3l97_ok C) all_nil))) fun vs H y h => (tt3l62_tie C vs H).trans h
 
noncomputable def tt3c57m (C : CallF) (vs : List Value) (H : AHeap) : Option (Value × AHeap) := execK C Tryz.prog 553 tt3_cuts (tt3_hook C) (seqB (seqB (seqB (seqB (seqB (seqB (seqB (seqB (seqB (seqB (seqB (seqB (seqB (seqB (seqB (seqB (codeIn (fnOf Tryz.prog 3)))))))))))))))))) (frameA vs [1, 2, 3, 4, 5, 6, 15, 16, 36, 37, 39] 0) H (retK Tryz.prog (fnOf Tryz.prog 3).results.toList)
 
noncomputable def tt3c55m (C : CallF) (vs : List Value) (H : AHeap) : Option (Value × AHeap) := execK C Tryz.prog 553 tt3_cuts (tt3_hook C) (seqB (seqB (seqB (seqB (seqB (seqB (seqB (seqB (seqB (seqB (seqB (seqB (seqB (seqB (seqB (codeIn (fnOf Tryz.prog 3))))))))))))))))) (frameA vs [1, 2, 3, 4, 5, 6, 15, 16, 36, 37, 38, 39, 40] 0) H (retK Tryz.prog (fnOf Tryz.prog 3).results.toList)
 
noncomputable def tt3c49m (C : CallF) (vs : List Value) (H : AHeap) : Option (Value × AHeap) := execK C Tryz.prog 553 tt3_cuts (tt3_hook C) (seqB (seqB (seqB (seqB (seqB (seqB (seqB (seqB (seqB (seqB (codeIn (fnOf Tryz.prog 3)))))))))))) (frameA vs [1, 2, 3, 4, 5, 6, 15, 16] 0) H (retK Tryz.prog (fnOf Tryz.prog 3).results.toList)
 
noncomputable def tt3c21m (C : CallF) (vs : List Value) (H : AHeap) : Option (Value × AHeap) := execK C Tryz.prog 553 tt3_cuts (tt3_hook C) (seqB (seqB (seqB (seqB (seqB (seqB (codeIn (fnOf Tryz.prog 3)))))))) (frameA vs [1, 2, 3, 4, 5, 6, 15, 16, 17, 18] 0) H (retK Tryz.prog (fnOf Tryz.prog 3).results.toList)
 
noncomputable def tt3c57 (C : CallF) (s1 s2 s3 s4 s5 s6 s15 s16 s36 s37 s39 : Value) (H : AHeap) : Option (Value × AHeap) :=
 (binA Tryz.prog .shr 23 (.tmp 318) (.const (.int .u64 1)) s6 (.int .u64 1)).bind fun v150 =>
 (iterL (tt3l62b C) rounds [s1, s2, s3, s4, s5, undef, s15, s16, s36, s37, s39, s36, (.int .u64 0), (.slice none 0 0), (.slice none 0 0), v150, (.int .i64 0)] H).bind fun p376 =>
 natK p376.1 (
 boolK (getT p376.2.1 6) (
 (C 20 [(getT p376.2.1 9)] p376.2.2).bind fun p377 =>
 (C 25 [(getT p376.2.1 9), p377.1] p377.2).bind fun p378 =>
 some (p378.1, p378.2)) (
 some ((.bool false), p376.2.2))) fun m379 =>
 natK m379 (
 some ((getT p376.2.1 5), p376.2.2)) fun m380 =>
 none
 
noncomputable def tt3c55 (C : CallF) (s1 s2 s3 s4 s5 s6 s15 s16 s36 s37 s38 s39 s40 : Value) (H : AHeap) : Option (Value × AHeap) :=
 (binA Tryz.prog .neq 46 (.tmp 293) (.const (.int .i64 0)) s38 (.int .i64 0)).bind fun v381 =>
 boolK v381 (
 some ((.bool false), H)) (
 (binA Tryz.prog .neq 46 (.tmp 296) (.const (.int .i64 0)) s40 (.int .i64 0)).bind fun v382 =>
 boolK v382 (
 some ((.bool false), H)) (
 (binA Tryz.prog .eql 45 (.tmp 300) (.const (.pointer none)) s37 (.pointer none)).bind fun v383 =>
 boolK v383 (
 some ((.bool false), H)) (
 (loadA (some (some 3)) s39 H).bind fun v384 =>
 (buildA (buildT Tryz.prog 50) [(0, s4), (1, s36), (2, s36)]).bind fun v385 =>
 (binA Tryz.prog .neq 50 (.tmp 304) (.tmp 308) v384 v385).bind fun v386 =>
 boolK v386 (
 some ((.bool false), H)) (
 (C 16 [s37] H).bind fun p387 =>
 (binA Tryz.prog .neq 3 (.tmp 313) (.tmp 314) p387.1 s1).bind fun v388 =>
 boolK v388 (
 some ((.bool false), p387.2)) (
 tt3c57m C [s1, s2, s3, s4, s5, s6, s15, s16, s36, s37, s39] p387.2)))))
 
noncomputable def tt3j393 (C : CallF) (s1 s2 s3 s4 s5 s6 s15 s16 : Value) (H : AHeap) : Option (Value × AHeap) :=
 (C 13 [s6] H).bind fun p144 =>
 (C 5 [p144.1, (.int .i64 4)] p144.2).bind fun p145 =>
 (binA Tryz.prog .add 3 (.tmp 275) (.tmp 278) s4 p145.1).bind fun v146 =>
 (C 14 [s1, s2, s3] p145.2).bind fun p147 =>
 (extractA p147.1 0).bind fun v148 =>
 (extractA p147.1 1).bind fun v149 =>
 (C 15 [s4, v146] p147.2).bind fun p389 =>
 (extractA p389.1 0).bind fun v390 =>
 (extractA p389.1 1).bind fun v391 =>
 (storeA (some 3) (.pointer (some ⟨p389.2.next, 0, none⟩)) v390 (p389.2.push (.cells [(.int .i64 0), (.int .i64 0), (.int .i64 0)]))).bind fun p392 =>
 tt3c55m C [s1, s2, s3, s4, s5, s6, s15, s16, v146, v148, v149, (.pointer (some ⟨p389.2.next, 0, none⟩)), v391] p392.2
 
noncomputable def tt3c49 (C : CallF) (s1 s2 s3 s4 s5 s6 s15 s16 : Value) (H : AHeap) : Option (Value × AHeap) :=
 (C 5 [s2, (.int .i64 5)] H).bind fun p142 =>
 (binA Tryz.prog .add 3 (.const (.int .i64 1)) (.tmp 271) (.int .i64 1) p142.1).bind fun v143 =>
 (binA Tryz.prog .eql 3 (.tmp 273) (.const (.int .i64 0)) s1 (.int .i64 0)).bind fun v394 =>
 boolK v394 (
 tt3j393 C s1 (.int .i64 1) s3 s4 s5 s6 s15 s16 p142.2) (
 tt3j393 C s1 v143 s3 s4 s5 s6 s15 s16 p142.2)
 
noncomputable def tt3c21 (C : CallF) (s1 s2 s3 s4 s5 s6 s15 s16 s17 s18 : Value) (H : AHeap) : Option (Value × AHeap) :=
 (lenA 2 none s17).bind fun v53 =>
 (fieldPtr (some (0, 1, 3)) s16).bind fun v54 =>
 (storeA (some 1) v54 v53 H).bind fun p55 =>
 (loadA (some (some 2)) s16 p55.2).bind fun v56 =>
 (C 6 [v56] p55.2).bind fun p57 =>
 (binA Tryz.prog .neq 35 (.tmp 143) (.const .nilIface) p57.1 .nilIface).bind fun v58 =>
 boolK v58 (
 some ((.bool false), p57.2)) (
 (fieldPtr (some (0, 1, 3)) s16).bind fun v59 =>
 (loadA (some none) v59 p57.2).bind fun v60 =>
 (convA (some (some .u64)) v60).bind fun v61 =>
 (binA Tryz.prog .sub 23 (.const (.int .u64 18446744073709551615)) (.tmp 148) (.int .u64 18446744073709551615) v61).bind fun v62 =>
 (buildSliceA (some (1, 8, [(.int .u64 0)])) 3 [(0, (.int .u64 0)), (1, s6), (2, v62)]).bind fun p63 =>
 (lenA 2 none (p63.2 p57.2.next)).bind fun v64 =>
 (iterL (tt3l25b C) rounds [s1, s2, s3, s4, s5, s6, undef, s15, s16, s17, s18, (p63.2 p57.2.next), v64, (.int .i64 0)] (p57.2.push p63.1)).bind fun p141 =>
 natK p141.1 (
 (C 5 [(getT p141.2.1 0), (.int .i64 3)] p141.2.2).bind fun p395 =>
 (C 5 [(getT p141.2.1 2), (.int .i64 65)] p395.2).bind fun p396 =>
 (C 5 [(getT p141.2.1 3), (.int .i64 5)] p396.2).bind fun p397 =>
 tt3c49m C [p395.1, (getT p141.2.1 1), p396.1, p397.1, (getT p141.2.1 4), (getT p141.2.1 5), (getT p141.2.1 7), (getT p141.2.1 8)] p397.2) fun m398 =>
 natK m398 (
 some ((getT p141.2.1 6), p141.2.2)) fun m399 =>
 none)
 
noncomputable def tt3 (C : CallF) (x0 x1 x2 x3 x4 x5 x6 : Value) (H : AHeap) : Option (Value × AHeap) :=
 (C 4 [] H).bind fun p0 =>
 (buildA (buildT Tryz.prog 27) []).bind fun v1 =>
 (storeA (some 2) (.pointer (some ⟨p0.2.next, 0, none⟩)) v1 (p0.2.push (.cells [(.int .i64 0), (.slice none 0 0)]))).bind fun p2 =>
 (iterL (tt3l5b C) rounds [x0, x1, x2, x3, x4, x5, x6, p0.1, (.pointer (some ⟨p0.2.next, 0, none⟩)), (.slice none 0 0), (.slice none 0 0), (.int .i64 0)] p2.2).bind fun p52 =>
 natK p52.1 (
 (lenA 2 none (getT p52.2.1 9)).bind fun v400 =>
 (minOp [(.int .i64 1), v400]).bind fun v401 =>
 (binA Tryz.prog .sub 3 (.const (.int .i64 1)) (.tmp 124) (.int .i64 1) v401).bind fun v402 =>
 (C 5 [(getT p52.2.1 4), (.int .i64 3)] p52.2.2).bind fun p403 =>
 (binA Tryz.prog .add 3 (.tmp 125) (.tmp 127) v402 p403.1).bind fun v404 =>
 (iterL (tt3l18b C) rounds [(getT p52.2.1 1), (getT p52.2.1 2), (getT p52.2.1 3), (getT p52.2.1 4), (getT p52.2.1 5), (getT p52.2.1 6), (getT p52.2.1 7), (getT p52.2.1 8), (getT p52.2.1 9), (getT p52.2.1 10), v404] p403.2).bind fun p411 =>
 natK p411.1 (
 tt3c21m C [(getT p411.2.1 0), (getT p411.2.1 1), (getT p411.2.1 2), (getT p411.2.1 3), (getT p411.2.1 4), (getT p411.2.1 5), (getT p411.2.1 6), (getT p411.2.1 7), (getT p411.2.1 8), (getT p411.2.1 9)] p411.2.2) fun m412 =>
 none) fun m413 =>
 none
 
theorem tt3c57_tie (C : CallF) (vs : List Value) (H : AHeap) : tt3c57m C vs H = tt3c57 C (getT vs 0) (getT vs 1) (getT vs 2) (getT vs 3) (getT vs 4) (getT vs 5) (getT vs 6) (getT vs 7) (getT vs 8) (getT vs 9) (getT vs 10) H := by kernel_rfl
 
theorem tt3c55_tie (C : CallF) (vs : List Value) (H : AHeap) : tt3c55m C vs H = tt3c55 C (getT vs 0) (getT vs 1) (getT vs 2) (getT vs 3) (getT vs 4) (getT vs 5) (getT vs 6) (getT vs 7) (getT vs 8) (getT vs 9) (getT vs 10) (getT vs 11) (getT vs 12) H := by kernel_rfl
 
theorem tt3c49_tie (C : CallF) (vs : List Value) (H : AHeap) : tt3c49m C vs H = tt3c49 C (getT vs 0) (getT vs 1) (getT vs 2) (getT vs 3) (getT vs 4) (getT vs 5) (getT vs 6) (getT vs 7) H := by kernel_rfl
 
theorem tt3c21_tie (C : CallF) (vs : List Value) (H : AHeap) : tt3c21m C vs H = tt3c21 C (getT vs 0) (getT vs 1) (getT vs 2) (getT vs 3) (getT vs 4) (getT vs 5) (getT vs 6) (getT vs 7) (getT vs 8) (getT vs 9) H := by kernel_rfl
 
theorem tt3_tie (C : CallF) (x0 x1 x2 x3 x4 x5 x6 : Value) (H : AHeap) : execK C Tryz.prog 553 tt3_cuts (tt3_hook C) (codeIn (fnOf Tryz.prog 3)) (argsA [x0, x1, x2, x3, x4, x5, x6] 0) H (retK Tryz.prog (fnOf Tryz.prog 3).results.toList) = tt3 C x0 x1 x2 x3 x4 x5 x6 H := by kernel_rfl
 
theorem tt3_from {prim : Prim} {keep : Keep} {n : Nat} (hp : prim 3 = none) (hk : keep 3 = keepOf tt3_loops tt3_cuts) (x0 x1 x2 x3 x4 x5 x6 : Value) (H : AHeap) (y : Value × AHeap) (h : tt3 (callA Tryz.prog prim keep noHooks n) x0 x1 x2 x3 x4 x5 x6 H = some y) : callA Tryz.prog prim keep noHooks (n + 1) 3 [x0, x1, x2, x3, x4, x5, x6] H = some y :=
   call_from (hook := tt3_hook (callA Tryz.prog prim keep noHooks n)) (m := 553) hk (cutsOk_mem (by kernel_rfl)) hp (by kernel_rfl) (by kernel_rfl) (loops_all (l := [loopN (codeIn (fnOf Tryz.prog 3)) 0, loopN (codeIn (fnOf Tryz.prog 3)) 1, loopN (codeIn (fnOf Tryz.prog 3)) 2, loopN (codeIn (fnOf Tryz.prog 3)) 3]) (by kernel_rfl) (all_cons (tt3l5_ok _) (all_cons (tt3l18_ok _) (all_cons (tt3l25_ok _) (all_cons (tt3l62_ok _) all_nil))))) (by kernel_rfl) ((tt3_tie _ x0 x1 x2 x3 x4 x5 x6 H).trans h)
 
end Go.Abs
