/-
  works() IS TRUE: errors.As and Noughts by contract, the rest by the kernel, on the closed heap of the listed variables.
-/
import Derived.Test.YtbomdnmkhegfnaaGreatDoorErrAs
import Derived.Test.YtbomdnmkhegfnaaGreatDoorWorksOne
import Derived.Test.YtbomdnmkhegfnaaGreatDoorHeap
set_option linter.all false
namespace Go.Abs
open Go.Proofs

/-! ## The handle of error's type -/

def isH : List Value → Bool
  | [.pointer (some ⟨b, o, none⟩)] => Nat.beq b 7 && Nat.beq o 35
  | _ => false
def isErr : Option Value → Bool
  | some (.iface t (.agg cs)) => Nat.beq t 344 && isH cs.toList
  | _ => false
theorem isErr_eq {o : Option Value} (h : isErr o = true) : o = some hErr := by
  unfold isErr at h
  split at h
  · rename_i t cs
    simp only [Bool.and_eq_true] at h
    obtain ⟨h1, h2⟩ := h
    obtain rfl := Nat.eq_of_beq_eq_true h1
    rcases cs with ⟨l⟩
    unfold isH at h2
    split at h2
    · rename_i b o hl
      simp only [Bool.and_eq_true] at h2
      obtain rfl := Nat.eq_of_beq_eq_true h2.1
      obtain rfl := Nat.eq_of_beq_eq_true h2.2
      simp only at hl
      subst hl
      rfl
    · simp at h2
  · simp at h

/-! ## errors.As -/

noncomputable def asA (args : List Value) (H : AHeap) : Option (Value × AHeap) :=
  match args with
  | [.nilIface, _] => some (.bool false, H)
  | [.iface t1 (.pointer (some e)), .iface t2 (.pointer (some ⟨i, o, none⟩))] => match Nat.beq t1 139 && (Nat.beq t2 219 && isErr (H.cell ⟨1, 0, none⟩)) with
    | true => match H.store ⟨i, o, none⟩ [.pointer (some e)] with
      | some H' => some (.bool true, H')
      | none => none
    | false => none
  | _ => none

noncomputable def prim0 : Prim := fun f => match Nat.beq f 106 with
  | true => some asA
  | false => match Nat.beq f 61 with
    | true => some (fun args H => match args with
      | [] => some (nought, H)
      | _ => none)
    | false => none

set_option maxRecDepth 100000 in
theorem as_calls (args : List Value) (H : AHeap) (v : Value) (H' : AHeap) (h : asA args H = some (v, H')) (φ : Phi) (w : World) (cargs : Array Value) (hG : Good Tryz.prog φ H w) (ha : LRel φ args cargs.toList) :
    Calls Tryz.prog 106 cargs w (Post φ H w v H') := by
  unfold asA at h
  split at h
  · rename_i t
    simp only [Option.some.injEq, Prod.mk.injEq] at h
    obtain ⟨rfl, rfl⟩ := h
    rcases cargs with ⟨l⟩
    obtain ⟨hl, hr⟩ := ha
    simp only [List.length_cons, List.length_nil] at hl
    match l, hl with
    | [x, y], _ =>
      have hx := hr 0 _ _ rfl rfl
      cases hx
      refine (as_nil y w).mono fun ev w' ⟨h1, h2⟩ => ?_
      subst h1; subst h2
      exact ⟨φ, .bool false, hG.rel, Step.refl _ _ _⟩
  · rename_i t1 e t2 i o
    split at h
    · rename_i hb
      simp only [Bool.and_eq_true] at hb
      obtain ⟨h1, h2, h3⟩ := hb
      obtain rfl := Nat.eq_of_beq_eq_true h1
      obtain rfl := Nat.eq_of_beq_eq_true h2
      have h3 := isErr_eq h3
      split at h
      · rename_i H1 hst
        simp only [Option.some.injEq, Prod.mk.injEq] at h
        obtain ⟨rfl, rfl⟩ := h
        rcases cargs with ⟨l⟩
        obtain ⟨hl, hr⟩ := ha
        simp only [List.length_cons, List.length_nil] at hl
        match l, hl with
        | [x, y], _ =>
          have hx := hr 0 _ _ rfl rfl
          have hy := hr 1 _ _ rfl rfl
          cases hx with
          | iface hx =>
          cases hx with
          | @ptr i1 o1 b1 c1 l1 hp1 =>
          cases hy with
          | iface hy =>
          cases hy with
          | @ptr i2 o2 b2 c2 l2 hp2 =>
          obtain ⟨l7, hl7⟩ := hG.glob 7 (by rw [gsize]; exact Nat.le_refl _)
          obtain ⟨lE, hlE⟩ := hG.glob 1 (by rw [gsize]; omega)
          obtain ⟨y1, hy1, hv1⟩ := hG.rel.cell h3 hlE
          rw [Nat.zero_add] at hy1
          have hg : w.cell? ⟨1, 0, none⟩ = some (.iface 344 (.agg #[.pointer (some ⟨7, 35, none⟩)])) := by
            rw [hy1]
            cases hv1 with
            | iface hv =>
            cases hv with
            | @agg c1' c2' hc hh =>
            rcases c2' with ⟨cl⟩
            match cl, hc with
            | [z], _ =>
              have hz := hh 0 _ _ rfl rfl
              cases hz with
              | ptr hp =>
                rw [hl7] at hp
                simp only [Option.some.injEq, Prod.mk.injEq] at hp
                obtain ⟨rfl, rfl, _⟩ := hp
                rfl
          obtain ⟨_, _, ⟨old, hold⟩, hfr, hsz⟩ := hG.rel.store1 hst hp2 (.ptr (o := o1) hp1)
          refine (as_hit ⟨b1, c1 + o1, none⟩ ⟨b2, c2 + o, none⟩ old w hg hold hfr).mono fun ev w' ⟨e1, e2⟩ => ?_
          subst e1
          have hG4 := post_garbage hG.rel (w1 := (((w.alloc (.cells #[.pointer (some ⟨b2, c2 + o, none⟩)] 219)).alloc (.cells #[.pointer (some ⟨7, 219, none⟩), .pointer (some ⟨w.heap.size, 0, none⟩), .int .u64 150] 284)).alloc (.cells #[.pointer (some ⟨7, 219, none⟩), .pointer (some ⟨w.heap.size, 0, none⟩), .int .u64 150] 284)).alloc (.cells #[.pointer (some ⟨b1, c1 + o1, none⟩)] 139))
            (by simp only [heap_alloc, Array.size_push]; omega)
            (fun b hb => by
              rw [alloc_old _ _ (by simp only [heap_alloc, Array.size_push]; omega), alloc_old _ _ (by simp only [heap_alloc, Array.size_push]; omega), alloc_old _ _ (by simp only [heap_alloc, Array.size_push]; omega), alloc_old _ _ hb]) rfl rfl rfl
          obtain ⟨k1, k2, _⟩ := hG4.1.store1 hst hp2 (.ptr (o := o1) hp1)
          rw [← e2] at k1 k2
          exact ⟨φ, .bool true, k1, hG4.2.trans k2⟩
      · simp at h
    · simp at h
  · simp at h

end Go.Abs
