/- which slots are kept, which functions are taken by contract -/
import Derived.Test.YtbomdnmkhegfnaaGreatDoorGenOne
import Derived.Test.YtbomdnmkhegfnaaGreatDoorGenTwo
import Derived.Test.YtbomdnmkhegfnaaGreatDoorGenThree
import Derived.Test.YtbomdnmkhegfnaaGreatDoorTopOne
import Derived.Test.YtbomdnmkhegfnaaGreatDoorHeap
set_option linter.all false
namespace Go.Abs
open Go.Proofs
noncomputable def ttPrim : Prim := fun f => match Nat.beq f 4 with | true => some worksA | false => none
noncomputable def ttKeep : Keep := fun f => match Nat.beq f 5 with
  | true => keepOf tt5_loops tt5_cuts
  | false => match Nat.beq f 6 with
  | true => keepOf tt6_loops tt6_cuts
  | false => match Nat.beq f 7 with
  | true => keepOf tt7_loops tt7_cuts
  | false => match Nat.beq f 8 with
  | true => keepOf tt8_loops tt8_cuts
  | false => match Nat.beq f 9 with
  | true => keepOf tt9_loops tt9_cuts
  | false => match Nat.beq f 10 with
  | true => keepOf tt10_loops tt10_cuts
  | false => match Nat.beq f 11 with
  | true => keepOf tt11_loops tt11_cuts
  | false => match Nat.beq f 12 with
  | true => keepOf tt12_loops tt12_cuts
  | false => match Nat.beq f 13 with
  | true => keepOf tt13_loops tt13_cuts
  | false => match Nat.beq f 34 with
  | true => keepOf tt34_loops tt34_cuts
  | false => match Nat.beq f 35 with
  | true => keepOf tt35_loops tt35_cuts
  | false => match Nat.beq f 52 with
  | true => keepOf tt52_loops tt52_cuts
  | false => match Nat.beq f 53 with
  | true => keepOf tt53_loops tt53_cuts
  | false => match Nat.beq f 14 with
  | true => keepOf tt14_loops tt14_cuts
  | false => match Nat.beq f 15 with
  | true => keepOf tt15_loops tt15_cuts
  | false => match Nat.beq f 16 with
  | true => keepOf tt16_loops tt16_cuts
  | false => match Nat.beq f 17 with
  | true => keepOf tt17_loops tt17_cuts
  | false => match Nat.beq f 18 with
  | true => keepOf tt18_loops tt18_cuts
  | false => match Nat.beq f 19 with
  | true => keepOf tt19_loops tt19_cuts
  | false => match Nat.beq f 20 with
  | true => keepOf tt20_loops tt20_cuts
  | false => match Nat.beq f 21 with
  | true => keepOf tt21_loops tt21_cuts
  | false => match Nat.beq f 22 with
  | true => keepOf tt22_loops tt22_cuts
  | false => match Nat.beq f 23 with
  | true => keepOf tt23_loops tt23_cuts
  | false => match Nat.beq f 24 with
  | true => keepOf tt24_loops tt24_cuts
  | false => match Nat.beq f 25 with
  | true => keepOf tt25_loops tt25_cuts
  | false => match Nat.beq f 3 with
  | true => keepOf tt3_loops tt3_cuts
  | false => fun _ => none
noncomputable def ttD (m : Nat) : CallF := callA Tryz.prog ttPrim ttKeep noHooks m
theorem ttD5 {m : Nat} {x0 x1 : Value} {H : AHeap} {y : Value × AHeap} (h : tt5 (ttD m) x0 x1 H = some y) : ttD (m + 1) 5 [x0, x1] H = some y :=
  tt5_from rfl rfl _ _ _ _ h
theorem ttD6 {m : Nat} {x0 : Value} {H : AHeap} {y : Value × AHeap} (h : tt6 (ttD m) x0 H = some y) : ttD (m + 1) 6 [x0] H = some y :=
  tt6_from rfl rfl _ _ _ h
theorem ttD7 {m : Nat} {x0 x1 : Value} {H : AHeap} {y : Value × AHeap} (h : tt7 (ttD m) x0 x1 H = some y) : ttD (m + 1) 7 [x0, x1] H = some y :=
  tt7_from rfl rfl _ _ _ _ h
theorem ttD8 {m : Nat} {x0 x1 : Value} {H : AHeap} {y : Value × AHeap} (h : tt8 (ttD m) x0 x1 H = some y) : ttD (m + 1) 8 [x0, x1] H = some y :=
  tt8_from rfl rfl _ _ _ _ h
theorem ttD9 {m : Nat} {x0 x1 x2 : Value} {H : AHeap} {y : Value × AHeap} (h : tt9 (ttD m) x0 x1 x2 H = some y) : ttD (m + 1) 9 [x0, x1, x2] H = some y :=
  tt9_from rfl rfl _ _ _ _ _ h
theorem ttD10 {m : Nat} {x0 x1 x2 : Value} {H : AHeap} {y : Value × AHeap} (h : tt10 (ttD m) x0 x1 x2 H = some y) : ttD (m + 1) 10 [x0, x1, x2] H = some y :=
  tt10_from rfl rfl _ _ _ _ _ h
theorem ttD11 {m : Nat} {x0 x1 x2 : Value} {H : AHeap} {y : Value × AHeap} (h : tt11 (ttD m) x0 x1 x2 H = some y) : ttD (m + 1) 11 [x0, x1, x2] H = some y :=
  tt11_from rfl rfl _ _ _ _ _ h
theorem ttD12 {m : Nat} {x0 x1 : Value} {H : AHeap} {y : Value × AHeap} (h : tt12 (ttD m) x0 x1 H = some y) : ttD (m + 1) 12 [x0, x1] H = some y :=
  tt12_from rfl rfl _ _ _ _ h
theorem ttD13 {m : Nat} {x0 : Value} {H : AHeap} {y : Value × AHeap} (h : tt13 (ttD m) x0 H = some y) : ttD (m + 1) 13 [x0] H = some y :=
  tt13_from rfl rfl _ _ _ h
theorem ttD34 {m : Nat} {x0 x1 : Value} {H : AHeap} {y : Value × AHeap} (h : tt34 (ttD m) x0 x1 H = some y) : ttD (m + 1) 34 [x0, x1] H = some y :=
  tt34_from rfl rfl _ _ _ _ h
theorem ttD35 {m : Nat} {x0 x1 x2 : Value} {H : AHeap} {y : Value × AHeap} (h : tt35 (ttD m) x0 x1 x2 H = some y) : ttD (m + 1) 35 [x0, x1, x2] H = some y :=
  tt35_from rfl rfl _ _ _ _ _ h
theorem ttD52 {m : Nat} {x0 x1 : Value} {H : AHeap} {y : Value × AHeap} (h : tt52 (ttD m) x0 x1 H = some y) : ttD (m + 1) 52 [x0, x1] H = some y :=
  tt52_from rfl rfl _ _ _ _ h
theorem ttD53 {m : Nat} {x0 x1 x2 : Value} {H : AHeap} {y : Value × AHeap} (h : tt53 (ttD m) x0 x1 x2 H = some y) : ttD (m + 1) 53 [x0, x1, x2] H = some y :=
  tt53_from rfl rfl _ _ _ _ _ h
theorem ttD14 {m : Nat} {x0 x1 x2 : Value} {H : AHeap} {y : Value × AHeap} (h : tt14 (ttD m) x0 x1 x2 H = some y) : ttD (m + 1) 14 [x0, x1, x2] H = some y :=
  tt14_from rfl rfl _ _ _ _ _ h
theorem ttD15 {m : Nat} {x0 x1 : Value} {H : AHeap} {y : Value × AHeap} (h : tt15 (ttD m) x0 x1 H = some y) : ttD (m + 1) 15 [x0, x1] H = some y :=
  tt15_from rfl rfl _ _ _ _ h
theorem ttD16 {m : Nat} {x0 : Value} {H : AHeap} {y : Value × AHeap} (h : tt16 (ttD m) x0 H = some y) : ttD (m + 1) 16 [x0] H = some y :=
  tt16_from rfl rfl _ _ _ h
theorem ttD17 {m : Nat} {x0 : Value} {H : AHeap} {y : Value × AHeap} (h : tt17 (ttD m) x0 H = some y) : ttD (m + 1) 17 [x0] H = some y :=
  tt17_from rfl rfl _ _ _ h
theorem ttD18 {m : Nat} {x0 : Value} {H : AHeap} {y : Value × AHeap} (h : tt18 (ttD m) x0 H = some y) : ttD (m + 1) 18 [x0] H = some y :=
  tt18_from rfl rfl _ _ _ h
theorem ttD19 {m : Nat} {x0 x1 x2 : Value} {H : AHeap} {y : Value × AHeap} (h : tt19 (ttD m) x0 x1 x2 H = some y) : ttD (m + 1) 19 [x0, x1, x2] H = some y :=
  tt19_from rfl rfl _ _ _ _ _ h
theorem ttD20 {m : Nat} {x0 : Value} {H : AHeap} {y : Value × AHeap} (h : tt20 (ttD m) x0 H = some y) : ttD (m + 1) 20 [x0] H = some y :=
  tt20_from rfl rfl _ _ _ h
theorem ttD21 {m : Nat} {x0 x1 : Value} {H : AHeap} {y : Value × AHeap} (h : tt21 (ttD m) x0 x1 H = some y) : ttD (m + 1) 21 [x0, x1] H = some y :=
  tt21_from rfl rfl _ _ _ _ h
theorem ttD22 {m : Nat} {x0 : Value} {H : AHeap} {y : Value × AHeap} (h : tt22 (ttD m) x0 H = some y) : ttD (m + 1) 22 [x0] H = some y :=
  tt22_from rfl rfl _ _ _ h
theorem ttD23 {m : Nat} {x0 : Value} {H : AHeap} {y : Value × AHeap} (h : tt23 (ttD m) x0 H = some y) : ttD (m + 1) 23 [x0] H = some y :=
  tt23_from rfl rfl _ _ _ h
theorem ttD24 {m : Nat} {x0 : Value} {H : AHeap} {y : Value × AHeap} (h : tt24 (ttD m) x0 H = some y) : ttD (m + 1) 24 [x0] H = some y :=
  tt24_from rfl rfl _ _ _ h
theorem ttD25 {m : Nat} {x0 x1 : Value} {H : AHeap} {y : Value × AHeap} (h : tt25 (ttD m) x0 x1 H = some y) : ttD (m + 1) 25 [x0, x1] H = some y :=
  tt25_from rfl rfl _ _ _ _ h
theorem ttD3 {m : Nat} {x0 x1 x2 x3 x4 x5 x6 : Value} {H : AHeap} {y : Value × AHeap} (h : tt3 (ttD m) x0 x1 x2 x3 x4 x5 x6 H = some y) : ttD (m + 1) 3 [x0, x1, x2, x3, x4, x5, x6] H = some y :=
  tt3_from rfl rfl _ _ _ _ _ _ _ _ _ h
end Go.Abs
