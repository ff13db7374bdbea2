/-
  WHAT CAME IN: slices of raw numbers; a table of numbers.
-/
import Derived.Test.YtbomdnmkhegfnaaGreatDoorRows
import Derived.Test.YtbomdnmkhegfnaaGreatDoorSpecFour
import Derived.ChangeArms
import Derived.ChangeSlices
import Derived.Deep.Slices
set_option linter.all false
namespace Go.Abs
open Go.Proofs Go.WideShapes Go.Deep

section
variable {H : Type} {enc : TypeId × Value → H} {W : World} {base : Nat} {spare : Nat → Bool} {held : Bool}

theorem in64_of_wf {n : Int} (h : (Lit.int .i64 n).wf = true) : In64 n := by
  simp [Lit.wf, IntKind.min, IntKind.max, IntKind.bits, IntKind.signed] at h
  unfold In64
  omega
theorem inU_of_wf {n : Int} (h : (Lit.int .u64 n).wf = true) : InU n := by
  simp [Lit.wf, IntKind.min, IntKind.max, IntKind.bits, IntKind.signed] at h
  unfold InU
  omega
theorem cells3 : Tryz.prog.cellsOf 3 = 1 := by kernel_rfl
theorem cells30 : Tryz.prog.cellsOf 30 = 4 := by kernel_rfl

theorem four {l : List Value} (h : l.length = 4) : ∃ a b c d, l = [a, b, c, d] := by
  match l, h with
  | [a, b, c, d], _ => exact ⟨a, b, c, d, rfl⟩

/-- Raw numbers, as they came in. -/
theorem spar_in {fuel : Nat} {cs : List Value} {x : DataW H × List MemPlace} (h : DataW.trod enc Tryz.prog W base spare held fuel 30 cs = some x) : ∃ s : Sp, cs = spcells s ∧ SpIn s := by
  obtain ⟨xs, n, _, _, hlen, hxl, hf⟩ := DataW.trod_struct Tryz.underlying30 h
  rw [cells30] at hlen
  obtain ⟨c0, c1, c2, c3, rfl⟩ := four hlen
  have get : ∀ (i : Nat) (hi : i < 4), ∃ y, xs[i]? = some y := fun i hi => ⟨_, List.getElem?_eq_getElem (by rw [hxl]; exact hi)⟩
  have h0 : DataW.trod enc Tryz.prog W base spare held n 3 (List.take (Tryz.prog.cellsOf 3) (List.drop 0 [c0, c1, c2, c3])) = xs[0]? := hf 0 _ rfl
  rw [cells3] at h0
  have h1 : DataW.trod enc Tryz.prog W base spare held n 3 (List.take (Tryz.prog.cellsOf 3) (List.drop 1 [c0, c1, c2, c3])) = xs[1]? := hf 1 _ rfl
  rw [cells3] at h1
  have h2 : DataW.trod enc Tryz.prog W base spare held n 3 (List.take (Tryz.prog.cellsOf 3) (List.drop 2 [c0, c1, c2, c3])) = xs[2]? := hf 2 _ rfl
  rw [cells3] at h2
  have h3 : DataW.trod enc Tryz.prog W base spare held n 3 (List.take (Tryz.prog.cellsOf 3) (List.drop 3 [c0, c1, c2, c3])) = xs[3]? := hf 3 _ rfl
  rw [cells3] at h3
  obtain ⟨y0, e0⟩ := get 0 (by omega)
  obtain ⟨y1, e1⟩ := get 1 (by omega)
  obtain ⟨y2, e2⟩ := get 2 (by omega)
  obtain ⟨y3, e3⟩ := get 3 (by omega)
  simp only [e0, e1, e2, e3, List.drop_zero, List.drop_succ_cons, List.take_succ_cons, List.take_zero] at h0 h1 h2 h3
  obtain ⟨n0, g0, _, w0⟩ := DataW.trod_int Tryz.underlying3 h0
  obtain ⟨n1, g1, _, w1⟩ := DataW.trod_int Tryz.underlying3 h1
  obtain ⟨n2, g2, _, w2⟩ := DataW.trod_int Tryz.underlying3 h2
  obtain ⟨n3, g3, _, w3⟩ := DataW.trod_int Tryz.underlying3 h3
  have k0 : [c0] = [Value.int .i64 n0] := g0
  have k1 : [c1] = [Value.int .i64 n1] := g1
  have k2 : [c2] = [Value.int .i64 n2] := g2
  have k3 : [c3] = [Value.int .i64 n3] := g3
  simp only [List.cons.injEq, and_true] at k0 k1 k2 k3
  subst k0; subst k1; subst k2; subst k3
  exact ⟨⟨n0, n1, n2, n3⟩, rfl, in64_of_wf w0, in64_of_wf w1, in64_of_wf w2, in64_of_wf w3⟩

/-- Four cells. -/
theorem cells4 {a : Addr} {s : List Value} (h : W.cells? base a 4 = some s) : ∀ j, j < 4 → W.cell? (a.add j) = s[j]? := by
  unfold World.cells? at h
  split at h
  · simp only [List.range, List.range.loop, List.mapM_cons, List.mapM_nil] at h
    cases e0 : W.cell? (a.add 0) with
    | none => simp [e0] at h
    | some x0 => cases e1 : W.cell? (a.add 1) with
      | none => simp [e0, e1] at h
      | some x1 => cases e2 : W.cell? (a.add 2) with
        | none => simp [e0, e1, e2] at h
        | some x2 => cases e3 : W.cell? (a.add 3) with
          | none => simp [e0, e1, e2, e3] at h
          | some x3 =>
            simp [e0, e1, e2, e3] at h
            subst h
            intro j hj
            match j, hj with
            | 0, _ => simpa using e0
            | 1, _ => simpa using e1
            | 2, _ => simpa using e2
            | 3, _ => simpa using e3
  · simp at h

/-- How a slice of raw numbers lies in memory. -/
structure SparArg (W : World) (v : Value) (al : List Sp) : Prop where
  inn : ∀ s ∈ al, SpIn s
  lay : (al = [] ∧ v = .slice none 0 0) ∨ ∃ a cap, v = .slice (some a) al.length cap ∧ al.length ≤ cap ∧
    (cap = 0 ∨ ∃ cs e f, a.spot = none ∧ W.heap[a.block]? = some (.cells cs e f) ∧ a.off + cap * 4 ≤ cs.size ∧ ∀ (j : Nat) x, (al.flatMap spcells)[j]? = some x → cs[a.off + j]? = some x)

theorem spar_arg {v : Value} {d : DataW H} {p : List MemPlace} (hv : ∃ a len cap, v = .slice a len cap) (h : DataW.Trod enc Tryz.prog W base (fun _ => true) held 22 v d p) : ∃ al, SparArg W v al := by
  obtain ⟨a0, len0, cap0, rfl⟩ := hv
  obtain ⟨fuel, h⟩ := h
  rcases open_slice Tryz.underlying22 h with ⟨hc, _⟩ | ⟨a, len, cap, m, n, D, Pl, hc, _, hle, _, hm, _, hel⟩
  · have hc : [Value.slice a0 len0 cap0] = [.slice none 0 0] := hc
    simp only [List.cons.injEq, and_true] at hc
    exact ⟨[], fun s hs => by simp at hs, .inl ⟨rfl, hc⟩⟩
  · have hc : [Value.slice a0 len0 cap0] = [.slice (some a) len cap] := hc
    simp only [List.cons.injEq, and_true] at hc
    rw [hc]
    simp only [if_true] at hm
    subst hm
    simp only [cells30] at hel
    have hall : ∀ i, i < m → ∃ s : Sp, SpIn s ∧ ∀ j, j < 4 → W.cell? ((a.add (i * 4)).add j) = (spcells s)[j]? := fun i hi => by
      obtain ⟨cs', h1, h2⟩ := hel i hi
      obtain ⟨s, rfl, hs⟩ := spar_in h2
      exact ⟨s, hs, cells4 h1⟩
    have : Inhabited Sp := ⟨⟨0, 0, 0, 0⟩⟩
    obtain ⟨g, hg⟩ := choose_lt hall
    refine ⟨(List.range len).map g, fun s hs => ?_, .inr ⟨a, m, by simp, by simpa using hle, ?_⟩⟩
    · obtain ⟨i, hi, rfl⟩ := List.mem_map.1 hs
      exact (hg i (by have := List.mem_range.1 hi; omega)).1
    · rcases Nat.eq_zero_or_pos m with h0 | hpos
      · exact .inl h0
      · right
        have hcell : ∀ i j, i < m → j < 4 → W.cell? (a.add (i * 4 + j)) = (spcells (g i))[j]? := fun i j hi hj => by
          rw [← add_add]; exact (hg i hi).2 j hj
        have hx : ∀ i j, i < m → j < 4 → ∃ x, (spcells (g i))[j]? = some x := fun i j hi hj => ⟨_, List.getElem?_eq_getElem (by simpa [spcells] using hj)⟩
        obtain ⟨x0, hx0⟩ := hx 0 0 hpos (by omega)
        have c0 := hcell 0 0 hpos (by omega)
        rw [hx0] at c0
        simp only [Nat.zero_mul, Nat.add_zero, Addr.add, if_true] at c0
        unfold World.cell? at c0
        split at c0
        · rename_i cs e f hcs
          split at c0
          · simp at c0
          · rename_i hsp
            have hsp : a.spot = none := by simpa using hsp
            have hat : ∀ k, W.cell? (a.add k) = cs[a.off + k]? := fun k => by
              unfold Addr.add
              by_cases hk : k = 0
              · subst hk; simp [World.cell?, hcs, hsp]
              · simp [hk, World.cell?, hcs]
            refine ⟨cs, e, f, hsp, hcs, ?_, fun j x hj => ?_⟩
            · obtain ⟨x3, hx3⟩ := hx (m - 1) 3 (by omega) (by omega)
              have c3 := hcell (m - 1) 3 (by omega) (by omega)
              rw [hx3, hat] at c3
              have := (Array.getElem?_eq_some_iff.1 c3).1
              omega
            · have hlt := (List.getElem?_eq_some_iff.1 hj).1
              rw [flat_len spcells_len, List.length_map, List.length_range] at hlt
              have hd : j = j / 4 * 4 + j % 4 := by omega
              have hgi : ((List.range len).map g)[j / 4]? = some (g (j / 4)) := by
                rw [List.getElem?_map, List.getElem?_range (by omega)]; rfl
              have hf := flat_cell spcells_len hgi (j := j % 4) (by omega)
              rw [← hd, hj] at hf
              rw [← hat j]
              have hk := hcell (j / 4) (j % 4) (by omega) (by omega)
              rw [← hd] at hk
              rw [hk, ← hf]
        · simp at c0

end
end Go.Abs
