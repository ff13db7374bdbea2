/-
  THE LAW's CALL, in the model: true; what was there before stands as it stood.
-/
import Derived.Test.YtbomdnmkhegfnaaGreatDoorWorksThree
import Derived.Test.YtbomdnmkhegfnaaGreatDoorSpecTen
import Derived.Test.YtbomdnmkhegfnaaGreatDoorInputs
import Derived.Below
set_option linter.all false
namespace Go.Abs
open Go.Proofs Go.RowKit

/-! ## Contracts -/

theorem callOk0 : CallOk Tryz.prog (callA Tryz.prog noPrim (fun _ _ => none) noHooks 3) := (call_sound (zeros_flat _) follows_mixed names_ok (noPrim_ok _) _ 3).1

theorem noughts_calls (H : AHeap) (φ : Phi) (w : World) (cargs : Array Value) (hG : Good Tryz.prog φ H w) (ha : LRel φ [] cargs.toList) : Calls Tryz.prog 61 cargs w (Post φ H w nought H) := by
  have h := noughts_run
  obtain ⟨⟨v, H'⟩, h1, h2⟩ := Option.map_eq_some_iff.1 h
  simp only at h2
  subst h2
  exact closed_call callOk0 hg0_closed rfl h1 (fun k B hk => by rw [hg0_get] at hk; simp at hk) hG ha

theorem prim0_ok : PrimOk Tryz.prog prim0 := by
  refine ⟨fun f p hp args H v H' h φ w cargs hG hf ha => ?_, fun f p hp => ?_, fun f p hp args H v H' h => ?_⟩
  · unfold prim0 at hp
    split at hp
    · rename_i hb
      obtain rfl := Nat.eq_of_beq_eq_true hb
      obtain rfl := Option.some.inj hp
      exact as_calls args H v H' h φ w cargs hG ha
    · split at hp
      · rename_i hb
        obtain rfl := Nat.eq_of_beq_eq_true hb
        obtain rfl := Option.some.inj hp
        simp only at h
        split at h
        · simp only [Option.some.injEq, Prod.mk.injEq] at h
          obtain ⟨rfl, rfl⟩ := h
          exact noughts_calls H φ w cargs hG ha
        · simp at h
      · simp at hp
  · unfold prim0 at hp
    split at hp
    · rename_i hb
      obtain rfl := Nat.eq_of_beq_eq_true hb
      exact ⟨Tryz.f106, Tryz.func106, by kernel_rfl⟩
    · split at hp
      · rename_i hb
        obtain rfl := Nat.eq_of_beq_eq_true hb
        exact ⟨Tryz.f61, Tryz.func61, by kernel_rfl⟩
      · simp at hp
  · unfold prim0 at hp
    split at hp
    · obtain rfl := Option.some.inj hp
      unfold asA at h
      split at h
      · simp only [Option.some.injEq, Prod.mk.injEq] at h
        obtain ⟨_, rfl⟩ := h
        exact Nat.le_refl _
      · split at h
        · split at h
          · rename_i H1 hst
            simp only [Option.some.injEq, Prod.mk.injEq] at h
            obtain ⟨_, rfl⟩ := h
            obtain ⟨xs, _, _, _, _, rfl⟩ := store_inv hst
            exact Nat.le_refl _
          · simp at h
        · simp at h
      · simp at h
    · split at hp
      · obtain rfl := Option.some.inj hp
        simp only at h
        split at h
        · simp only [Option.some.injEq, Prod.mk.injEq] at h
          obtain ⟨_, rfl⟩ := h
          exact Nat.le_refl _
        · simp at h
      · simp at hp

theorem callOk1 : CallOk Tryz.prog (callA Tryz.prog prim0 (fun _ _ => none) noHooks 60) := (call_sound (zeros_flat _) follows_mixed names_ok prim0_ok _ 60).1

theorem hg_closed : Closed Tryz.prog Hg := by
  refine ⟨fun k B h => ?_, fun k B h => ?_, by rw [gsize]; exact Nat.lt_succ_self 7, fun φ k xs h x hx y hy => ?_⟩
  · rw [hg_get] at h
    split at h
    · obtain rfl := Option.some.inj h; rfl
    · split at h
      · obtain rfl := Option.some.inj h; rfl
      · simp at h
  · rw [hg_get] at h
    show k < 8
    split at h
    · omega
    · split at h
      · omega
      · simp at h
  · rw [hg_get] at h
    split at h
    · have h := Option.some.inj h
      simp only [Blk.ro.injEq] at h
      subst h
      simp only [List.mem_singleton] at hx
      subst hx
      cases hy with
      | iface hv =>
      refine .iface ?_
      cases hv with
      | @agg c1 c2 hc hh =>
      refine .agg hc fun i a b ha hb => ?_
      have hv := hh i a b ha hb
      rcases i with _ | i
      · simp at ha
        subst ha
        cases hv with
        | ptr hp =>
          have hb : below φ Hg.next 7 = φ 7 := if_pos (show 7 < Hg.next from Nat.lt_succ_self 7)
          exact .ptr (hb.trans hp)
      · simp at ha
    · split at h
      · have h := Option.some.inj h
        simp only [Blk.ro.injEq] at h
        subst h
        have hs : scalar x = true := List.all_eq_true.1 (show crcT.all scalar = true from rfl) x hx
        rw [scalar_rel hy hs]
        exact rel_of_scalar hs
      · simp at h

theorem ttPrim_ok : PrimOk Tryz.prog ttPrim := by
  refine ⟨fun f p hp args H v H' h φ w cargs hG hf ha => ?_, fun f p hp => ?_, fun f p hp args H v H' h => ?_⟩
  · unfold ttPrim at hp
    split at hp
    · rename_i hb
      obtain rfl := Nat.eq_of_beq_eq_true hb
      obtain rfl := Option.some.inj hp
      obtain ⟨rfl, hs, rfl, rfl⟩ := worksA_inv h
      obtain ⟨⟨v, H1⟩, h1, h2⟩ := Option.map_eq_some_iff.1 works_run
      simp only at h2
      subst h2
      exact closed_call callOk1 hg_closed rfl h1 hs hG ha
    · simp at hp
  · unfold ttPrim at hp
    split at hp
    · rename_i hb
      obtain rfl := Nat.eq_of_beq_eq_true hb
      exact ⟨Tryz.f4, Tryz.func4, by kernel_rfl⟩
    · simp at hp
  · unfold ttPrim at hp
    split at hp
    · obtain rfl := Option.some.inj hp
      obtain ⟨_, _, _, rfl⟩ := worksA_inv h
      exact Nat.le_refl _
    · simp at hp

theorem callOk2 (m : Nat) : CallOk Tryz.prog (ttD m) := (call_sound (zeros_flat _) follows_mixed names_ok ttPrim_ok _ m).1

/-! ## What came in, on the machine -/

theorem arg_abs {W : World} {v : Value} {al : List Sp} (h : SparArg W v al) {cs0 : Array Value} {e0 : TypeId} {f0 : Nat × Nat} (h0 : W.heap[0]? = some (.cells cs0 e0 f0)) (k : Nat) :
    ∃ (av : Value) (b c l : Nat), (∀ φ : Phi, φ k = some (b, c, l) → VRel φ av v ∧ BRel φ W b c l (.ro (al.flatMap spcells))) ∧ ∀ H : AHeap, Row H k (al.flatMap spcells) → Sl H av 4 spcells al := by
  rcases h.lay with ⟨rfl, rfl⟩ | ⟨a, cap, rfl, hle, hc⟩
  · exact ⟨.slice none 0 0, 0, 0, cs0.size, fun φ hφ => ⟨.sliceNil, cs0, e0, f0, h0, rfl, by simp, fun i x hx => by simp at hx⟩, fun H _ => Sl.nil _ _ _⟩
  · rcases hc with rfl | ⟨cs, e, f, hsp, hcs, hb, hx⟩
    · have hal : al = [] := List.length_eq_zero_iff.1 (by omega)
      subst hal
      exact ⟨.slice (some ⟨k, 0, none⟩) ([] : List Sp).length 4, 0, 0, cs0.size, fun φ hφ => ⟨.slice hφ (Nat.le_refl _) (by simp) (.inl rfl), cs0, e0, f0, h0, rfl, by simp, fun i x hx => by simp at hx⟩, fun H hr => Sl.mk spcells_len hr⟩
    · refine ⟨.slice (some ⟨k, 0, none⟩) al.length 4, a.block, a.off, cs.size, fun φ hφ => ⟨?_, cs, e, f, hcs, rfl, ?_, fun i x hi => ⟨x, hx i x hi, ?_⟩⟩, fun H hr => Sl.mk spcells_len hr⟩
      · refine .slice hφ hle (by omega) (.inr ?_)
        rcases a with ⟨ab, ao, asp⟩
        simp only at hsp
        subst hsp
        rfl
      · rw [flat_len spcells_len]; omega
      · have hm := List.mem_of_getElem? hi
        obtain ⟨s, _, hs⟩ := List.mem_flatMap.1 hm
        simp only [spcells, List.mem_cons, List.not_mem_nil, or_false] at hs
        rcases hs with rfl | rfl | rfl | rfl <;> exact .int _ _

def sizeAt (W : World) (i : Nat) : Nat := match W.heap[i]? with
  | some (.cells cs _ _) => cs.size
  | _ => 0

def phiOf (W : World) (x y : Nat × Nat × Nat) : Phi := fun i => if i < 7 then some (i, 0, sizeAt W i) else if i = 7 then some (7, 0, 0) else if i = 8 then some x else if i = 9 then some y else none

/-- The law's call. -/
theorem law_calls {W : World} {v0 v5 : Value} {wl al : List Sp} {kind most size rate far : Int} (a0 : SparArg W v0 wl) (a5 : SparArg W v5 al) (ik : In64 kind) (im : In64 most) (is : In64 size) (ir : In64 rate) (hf : InU far)
    {cs0 : Array Value} {e0 : TypeId} {f0 : Nat × Nat} (h0 : W.heap[0]? = some (.cells cs0 e0 f0)) (hcrc : ∀ (i : Nat) x, crcT[i]? = some x → cs0[i]? = some x) {cs1 : Array Value} {e1 : TypeId} {f1 : Nat × Nat} (h1 : W.heap[1]? = some (.cells cs1 e1 f1)) (herr : cs1[0]? = some hErr) :
    Calls Tryz.prog 3 #[v0, .int .i64 kind, .int .i64 most, .int .i64 size, .int .i64 rate, v5, .int .u64 far] W fun ev W' => ev = .returned (.bool true) ∧ Below W.heap.size W W' := by
  obtain ⟨x0, b0, c0, l0, r0, s0⟩ := arg_abs a0 h0 8
  obtain ⟨x5, b5, c5, l5, r5, s5'⟩ := arg_abs a5 h0 9
  obtain ⟨fn, rfl⟩ := Int.eq_ofNat_of_zero_le hf.1
  have hf2 : fn ≤ 18446744073709551615 := by have := hf.2; omega
  generalize hφ : phiOf W (b0, c0, l0) (b5, c5, l5) = φ
  generalize hH : (Hg.push (.ro (wl.flatMap spcells))).push (.ro (al.flatMap spcells)) = H
  have hn : H.next = 10 := by rw [← hH]; rfl
  have hget : ∀ k, H.get k = if k = 9 then some (.ro (al.flatMap spcells)) else if k = 8 then some (.ro (wl.flatMap spcells)) else Hg.get k := fun k => by
    rw [← hH, AHeap.get_push, AHeap.get_push]; rfl
  have hsub : ∀ k B, Hg.get k = some B → H.get k = some B := fun k B hk => by
    have hlt : k < 8 := hg_closed.lt k B hk
    rw [hget, if_neg (by omega), if_neg (by omega), hk]
  have p8 : φ 8 = some (b0, c0, l0) := by rw [← hφ]; rfl
  have p9 : φ 9 = some (b5, c5, l5) := by rw [← hφ]; rfl
  have p0 : φ 0 = some (0, 0, cs0.size) := by rw [← hφ]; simp [phiOf, sizeAt, h0]
  have p1 : φ 1 = some (1, 0, cs1.size) := by rw [← hφ]; simp [phiOf, sizeAt, h1]
  have p7 : φ 7 = some (7, 0, 0) := by rw [← hφ]; rfl
  obtain ⟨v8, k8⟩ := r0 φ p8
  obtain ⟨v9, k9⟩ := r5 φ p9
  have row8 : Row H 8 (wl.flatMap spcells) := ⟨by omega, by rw [hget, if_neg (by omega), if_pos rfl]; rfl⟩
  have row9 : Row H 9 (al.flatMap spcells) := ⟨by omega, by rw [hget, if_pos rfl]; rfl⟩
  have hro : ∀ k B, H.get k = some B → B.isRo = true := fun k B hk => by
    rw [hget] at hk
    split at hk
    · obtain rfl := Option.some.inj hk; rfl
    · split at hk
      · obtain rfl := Option.some.inj hk; rfl
      · exact hg_closed.ro k B hk
  have hrel : Rel φ H W := by
    refine ⟨fun k B hk => ?_, fun i j B B' hi hj hr => ?_, fun k B hk => ?_⟩
    · rw [hget] at hk
      split at hk
      · obtain rfl := Option.some.inj hk
        rename_i hk9; subst hk9
        exact ⟨b5, c5, l5, p9, k9⟩
      · split at hk
        · obtain rfl := Option.some.inj hk
          rename_i _ hk8; subst hk8
          exact ⟨b0, c0, l0, p8, k8⟩
        · rw [hg_get] at hk
          split at hk
          · obtain rfl := Option.some.inj hk
            rename_i hk1; subst hk1
            refine ⟨1, 0, cs1.size, p1, cs1, e1, f1, h1, rfl, ?_, fun i x hx => ?_⟩
            · have := (Array.getElem?_eq_some_iff.1 herr).1
              simp; omega
            · have hlt := (List.getElem?_eq_some_iff.1 hx).1
              simp at hlt; subst hlt
              simp at hx; subst hx
              refine ⟨hErr, by simpa using herr, .iface (.agg rfl fun i a b ha hb => ?_)⟩
              rcases i with _ | i
              · simp at ha hb
                subst ha; subst hb
                exact .ptr (o := 35) p7
              · simp at ha
          · split at hk
            · obtain rfl := Option.some.inj hk
              rename_i hk0; subst hk0
              refine ⟨0, 0, cs0.size, p0, cs0, e0, f0, h0, rfl, ?_, fun i x hx => ⟨x, by simpa using hcrc i x hx, rel_of_scalar (List.all_eq_true.1 (show crcT.all scalar = true from rfl) x (List.mem_of_getElem? hx))⟩⟩
              have := (Array.getElem?_eq_some_iff.1 (hcrc 15 _ rfl)).1
              show 0 + 16 ≤ cs0.size
              omega
            · simp at hk
    · rw [hro i B hi, hro j B' hj] at hr
      simp at hr
    · rw [hget] at hk
      rw [hn]
      split at hk
      · omega
      · split at hk
        · omega
        · have : k < 8 := hg_closed.lt k B hk
          omega
  have hglob : GlobOk Tryz.prog φ := fun g hg => by
    rw [gsize] at hg
    rw [← hφ]
    by_cases hlt : g < 7
    · exact ⟨sizeAt W g, by simp [phiOf, hlt]⟩
    · obtain rfl : g = 7 := by omega
      exact ⟨0, rfl⟩
  have hG : Good Tryz.prog φ H W := ⟨hrel, hglob, by rw [gsize, hn]; omega⟩
  have hworks : ttD 5 4 [] H = some (.bool true, H) := by
    show callA Tryz.prog ttPrim ttKeep noHooks 5 4 [] H = _
    have : ttPrim 4 = some worksA := rfl
    simp only [callA, this]
    exact worksA_at hsub
  obtain ⟨H', e⟩ := tt3_true (m := 5) (by omega) hworks (s0 H row8) (s5' H row9) a0.inn a5.inn ik im is ir hf2
  have hfree : Free φ H.next H'.next := fun i h1 _ => by
    rw [hn] at h1
    rw [← hφ]
    simp only [phiOf]
    rw [if_neg (by omega), if_neg (by omega), if_neg (by omega), if_neg (by omega)]
  have hargs : LRel φ [x0, .int .i64 kind, .int .i64 most, .int .i64 size, .int .i64 rate, x5, .int .u64 fn] (#[v0, .int .i64 kind, .int .i64 most, .int .i64 size, .int .i64 rate, v5, .int .u64 fn] : Array Value).toList :=
    .cons v8 (.cons (.int _ _) (.cons (.int _ _) (.cons (.int _ _) (.cons (.int _ _) (.cons v9 (.cons (.int _ _) .nil))))))
  refine ((callOk2 6).calls 3 _ H _ H' e φ W _ hG hfree hargs).mono fun ev W' he => ?_
  cases ev with
  | panicked => exact he.elim
  | outgrown => exact he.elim
  | returned v =>
    obtain ⟨φ', g1, g2, g3⟩ := he
    have hv : v = .bool true := scalar_rel g1 rfl
    refine ⟨by rw [hv], ⟨g3.os, g3.tape, g3.out, g3.size, fun b hb => (g3.keep b hb ?_).1⟩⟩
    rintro ⟨i, B, c, l, k1, k2, _⟩
    rw [hro i B k1] at k2
    simp at k2

end Go.Abs
