/-
  THE ABSTRACT MACHINE: operations that make memory.
-/
import Derived.Test.YtbomdnmkhegfnaaGreatDoorAbsOne
import Derived.LoopN
import Derived.Scope
import Derived.Defers
set_option linter.all false
namespace Go.Abs

variable {P : Program} {φ : Phi}

/-- What a new block must be: wherever its number stands for it. -/
def Made (φ : Phi) (w w' : World) (B : Blk) (val : Nat → Value) (v' : Value) : Prop :=
  B.isRo = false ∧ Grown w w' ∧ ∃ l, ∀ φ' i, Le φ φ' → φ' i = some (w.heap.size, 0, l) → BRel φ' w' w.heap.size 0 l B ∧ VRel φ' (val i) v'

theorem made_cells {w : World} {xs : List Value} {ys : Array Value} {t : TypeId} {val : Nat → Value} {v' : Value} (hr : LRel φ xs (ys.toList.take xs.length)) (hl : xs.length ≤ ys.size)
    (hv : ∀ φ' i, Le φ φ' → φ' i = some (w.heap.size, 0, ys.size) → VRel φ' (val i) v') : Made φ w { w with heap := w.heap.push (.cells ys t) } (.cells xs) val v' := by
  refine ⟨rfl, grown_push w _, ys.size, fun φ' i hle hi => ⟨⟨ys, t, (0, 0), by simp, rfl, by omega, .inl rfl, fun j x hx => ?_⟩, hv φ' i hle hi⟩⟩
  obtain ⟨y, hy, hxy⟩ := hr.get hx
  have hj : j < xs.length := (List.getElem?_eq_some_iff.1 hx).1
  rw [List.getElem?_take_of_lt hj, Array.getElem?_toList] at hy
  exact ⟨y, by rw [Nat.zero_add]; exact hy, hxy.mono hle⟩

theorem made_ptr {w : World} {xs : List Value} {ys : Array Value} {t : TypeId} (hr : LRel φ xs ys.toList) :
    Made φ w { w with heap := w.heap.push (.cells ys t) } (.cells xs) (fun i => .pointer (some ⟨i, 0, none⟩)) (.pointer (some ⟨w.heap.size, 0, none⟩)) := by
  have hl : xs.length = ys.size := by rw [hr.1, Array.length_toList]
  refine made_cells (by rw [hl, ← Array.length_toList, List.take_length]; exact hr) (by omega) (fun φ' i _ hi => ?_)
  have := VRel.ptr (φ := φ') (o := 0) hi
  exact this

theorem made_slice {w : World} {xs : List Value} {ys : Array Value} {t : TypeId} {n m cap : Nat} (hr : LRel φ xs (ys.toList.take xs.length)) (hl : xs.length ≤ ys.size) (h1 : n ≤ cap) (h2 : cap * m ≤ ys.size) :
    Made φ w { w with heap := w.heap.push (.cells ys t) } (.cells xs) (fun i => .slice (some ⟨i, 0, none⟩) n m) (.slice (some ⟨w.heap.size, 0, none⟩) n cap) := by
  refine made_cells hr hl (fun φ' i _ hi => ?_)
  exact VRel.slice (φ := φ') (o := 0) hi h1 (by omega) (.inr rfl)

theorem newPtr_inv {l : List Value} {B : Blk} {val : Nat → Value} (h : newPtr l = some (B, val)) : l.all oneCell = true ∧ B = .cells l ∧ val = fun i => .pointer (some ⟨i, 0, none⟩) := by
  unfold newPtr at h
  split at h
  · rename_i ha
    rw [allL_eq] at ha
    simp only [Option.some.injEq, Prod.mk.injEq] at h
    exact ⟨ha, h.1.symm, h.2.symm⟩
  · simp at h

theorem zerosA_zero (z : List Value) : zerosA z 0 = [] := rfl
theorem zerosA_succ (z : List Value) (n : Nat) : zerosA z (n + 1) = z ++ zerosA z n := by
  show app z (zerosA z n) = _
  rw [app_eq]

theorem zerosA_len (z : List Value) : ∀ n, (zerosA z n).length = n * z.length
  | 0 => by simp [zerosA_zero]
  | n + 1 => by rw [zerosA_succ, List.length_append, zerosA_len z n, Nat.add_mul]; omega

theorem zerosA_get (z : List Value) : ∀ (n i : Nat), i < n * z.length → (zerosA z n)[i]? = z[i % z.length]?
  | 0, i, h => by simp at h
  | n + 1, i, h => by
    rw [zerosA_succ, List.getElem?_append]
    split
    · rename_i hi; rw [Nat.mod_eq_of_lt hi]
    · rename_i hi
      rw [zerosA_get z n (i - z.length) (by rw [Nat.add_mul] at h; omega)]
      congr 1
      have hz : 0 < z.length := by
        rcases Nat.eq_zero_or_pos z.length with h0 | h0
        · rw [h0] at h; omega
        · exact h0
      rw [Nat.mod_eq_sub_mod (by omega : i ≥ z.length)]

theorem range_zeros (z : Array Value) (n : Nat) : ((Array.range (n * z.size)).map (z[· % z.size]!)).toList = zerosA z.toList n := by
  apply List.ext_getElem?
  intro i
  by_cases hi : i < n * z.size
  · rw [zerosA_get _ _ _ (by simpa using hi)]
    have hz : 0 < z.size := by
      rcases Nat.eq_zero_or_pos z.size with h0 | h0
      · rw [h0] at hi; omega
      · exact h0
    have hm := Nat.mod_lt i hz
    simp [hi, getElem!_pos, hm]
  · rw [List.getElem?_eq_none (by simp; omega), List.getElem?_eq_none (by rw [zerosA_len]; simpa using hi)]

theorem zeroRow_info {t : TypeId} {n w : Nat} {z : List Value} (h : zeroRowT P t = some (n, w, z)) :
    ∃ e zv, P.underlying t = some (.slice e) ∧ sizeT P e = some n ∧ zeroT P e = some zv ∧ bytesT P e = some w ∧ z = cellsOf zv ∧ z.length = n ∧ z.all oneCell = true := by
  unfold zeroRowT at h
  split at h
  · rename_i e m he
    obtain ⟨h1, h2⟩ := elem_info he
    split at h
    · rename_i zv w' hz hw
      split at h
      · rename_i b1 b2
        have b1 := Nat.eq_of_beq_eq_true b1
        rw [len_eq] at b1
        rw [allL_eq] at b2
        simp only [Option.some.injEq, Prod.mk.injEq] at h
        obtain ⟨rfl, rfl, rfl⟩ := h
        exact ⟨e, zv, h1, h2, hz, hw, rfl, b1, b2⟩
      · simp at h
    · simp at h
  · simp at h

theorem fill_zero {place : Nat → Option (Nat × Nat)} {cells out : List Value} {parts : List (Nat × Value)} (h : fillA place cells parts = some out) : out.length = cells.length := by
  induction parts generalizing cells with
  | nil => simp only [fillA, Option.some.injEq] at h; rw [h]
  | cons x parts ih =>
    obtain ⟨i, v⟩ := x
    unfold fillA at h
    split at h
    · simp at h
    · split at h
      · rw [ih h, splice_len]
      · simp at h

theorem freeze_heap (w : World) (b n : Nat) (b' : Nat) : (w.freeze ⟨b, n, none⟩ 1).heap[b']? = if b' = b then (w.heap[b]?).map (fun
      | .cells c elem (lo, hi) => .cells c elem (if lo == hi then (n, n + 1) else (min lo n, max hi (n + 1)))
      | o => o) else w.heap[b']? := by
  simp only [World.freeze, Nat.one_ne_zero, if_false, Array.getElem?_modify]
  by_cases h : b' = b
  · subst h
    rw [if_pos rfl, if_pos rfl]
    cases w.heap[b']? <;> rfl
  · rw [if_neg (Ne.symm h), if_neg h]

theorem stringToBytes_made (w : World) (e : TypeId) (st : ByteArray) :
    ∃ v' w', (Conv.stringToBytes e st).run P w = .ok v' w' ∧ Made φ w w' (.cells (byteVals st)) (fun i => .slice (some ⟨i, 0, none⟩) st.size 1) v' := by
  let cap := (Question.appendCap st.size 0 e).cut (w.tape w.drawn (.appendCap st.size 0 e))
  have hcap : st.size ≤ cap := by simp only [cap, Question.cut]; omega
  let cs : Array Value := st.data.map (fun b => Value.int .u8 b.toNat) ++ Array.replicate (cap - st.size) (.int .u8 0)
  have hcs : cs.size = cap := by
    have : st.data.size = st.size := rfl
    simp only [cs, Array.size_append, Array.size_map, Array.size_replicate]; omega
  have hlen : (byteVals st).length = st.size := by simp [byteVals]
  let w1 : World := { w with drawn := w.drawn + 1, heap := w.heap.push (.cells cs e) }
  refine ⟨.slice (some ⟨w.heap.size, 0, none⟩) st.size cap, w1.freeze ⟨w.heap.size, cs.size, none⟩ 1, ?_, rfl, ⟨?_, fun b hb => ?_, rfl, rfl, rfl⟩, cap, fun φ' i _ hi => ⟨⟨cs, e, (cs.size, cs.size + 1), ?_, hcs, by omega, .inr (by omega), fun j x hx => ?_⟩, ?_⟩⟩
  · have hch : (choose (Question.appendCap st.size 0 e)).run P w = .ok cap { w with drawn := w.drawn + 1 } := by simp [Question.forced, cap]
    have hsh : (shape w.heap.size).run P w1 = .ok (some (e, cs.size)) w1 := by simp [World.shape?, w1]
    simp only [Conv.stringToBytes, Sem.run_bind, hch, Result.andThen_ok, newRow, run_newObj, Sem.run_pure, markStringish]
    have hsh' : (shape w.heap.size).run P { w with drawn := w.drawn + 1, heap := w.heap.push (.cells cs e) } = .ok (some (e, cs.size)) w1 := hsh
    show ((Sem.run P (shape w.heap.size) w1).andThen _).andThen _ = _
    rw [hsh]
    rfl
  · show (w1.freeze ⟨w.heap.size, cs.size, none⟩ 1).heap.size = _
    simp [World.freeze, w1]
  · rw [freeze_heap, if_neg (by omega)]
    show (w.heap.push _)[b]? = _
    rw [Array.getElem?_push, if_neg (by omega)]
  · rw [freeze_heap, if_pos rfl]
    show ((w.heap.push _)[w.heap.size]?).map _ = _
    simp
  · rw [Nat.zero_add]
    have hj : j < st.size := by rw [← hlen]; exact (List.getElem?_eq_some_iff.1 hx).1
    refine ⟨x, ?_, ?_⟩
    · simp only [byteVals, List.getElem?_map, Option.map_eq_some_iff] at hx
      obtain ⟨b, hb, rfl⟩ := hx
      simp only [cs]
      rw [Array.getElem?_append_left (by simpa using hj)]
      rw [Array.getElem?_toList] at hb
      simp [hb]
    · simp only [byteVals, List.getElem?_map, Option.map_eq_some_iff] at hx
      obtain ⟨b, hb, rfl⟩ := hx
      exact .int _ _
  · exact VRel.slice (φ := φ') (o := 0) hi hcap (by omega) (.inr rfl)

theorem alloc_sound {ρ ρ' : Operand → Value} (hz : ZerosFlat P) (hρ : ∀ x, VRel φ (ρ x) (ρ' x)) (o : Oper) (hc : cls P o.op = .A) {B : Blk} {val : Nat → Value} (h : allocOp P o.op ρ = some (B, val)) (w : World) :
    ∃ v' w', (execOp ρ' o).run P w = .ok (.value v') w' ∧ Made φ w w' B val v' := by
  obtain ⟨dst, op, ty, pos, after, guard⟩ := o
  cases op <;> simp only [allocOp] at h
  case alloc t =>
    unfold newZero at h
    split at h
    · rename_i z hzv
      obtain ⟨h1, rfl, rfl⟩ := newPtr_inv h
      obtain ⟨_, hcells⟩ := flat_cells (φ := φ) (hz t z hzv)
      refine ⟨_, _, ?_, made_ptr (t := t) hcells⟩
      simp [execOp, Instr.alloc, run_zero hzv, newVar, newRow]
    · simp at h
  case box t x =>
    obtain ⟨h1, rfl, rfl⟩ := newPtr_inv h
    have hcells := cells_rel (hρ x) h1
    refine ⟨_, _, ?_, made_ptr (t := t) hcells⟩
    simp [execOp, Instr.box, newVar, newRow]
  case buildSlice t len parts =>
    unfold buildSliceA at h
    split at h
    · rename_i n wb z hzr
      obtain ⟨e, zv, e1, e2, e3, e4, rfl, e6, e7⟩ := zeroRow_info hzr
      split at h
      · rename_i hb
        have hb := Nat.le_of_ble_eq_true hb
        unfold newRowA at h
        split at h
        · rename_i out hout
          simp only [Option.some.injEq, Prod.mk.injEq] at h
          obtain ⟨rfl, rfl⟩ := h
          obtain ⟨h1, h2⟩ := parts_rel hρ parts.toList
          obtain ⟨_, hcells⟩ := flat_cells (φ := φ) (hz e zv e3)
          have hzs : zv.cells.size = n := by rw [← Array.length_toList, ← hcells.1, e6]
          have hzl : zv.cells.toList = cellsOf zv := by
            cases zv <;> rfl
          let zero' : Array Value := if len * n = 0 then #[] else zv.cells
          have hstart : ((Array.range (len * n)).map (zero'[· % zero'.size]!)).toList = zerosA (cellsOf zv) len := by
            by_cases h0 : len * n = 0
            · have : (zerosA (cellsOf zv) len) = [] := List.eq_nil_of_length_eq_zero (by rw [zerosA_len, e6, h0])
              rw [this, h0]; simp
            · have : zero' = zv.cells := by simp [zero', h0]
              rw [this, ← hzl, ← range_zeros, hzs]
          have hself : LRel φ (zerosA (cellsOf zv) len) (zerosA (cellsOf zv) len) := by
            have hzz : LRel φ (cellsOf zv) (cellsOf zv) := by rw [← hzl] at hcells ⊢; exact hcells
            generalize cellsOf zv = q at hzz
            induction len with
            | zero => exact .nil
            | succ k ih =>
              rw [zerosA_succ]
              exact hzz.append (by
                have : ∀ k, LRel φ (zerosA q k) (zerosA q k) := by
                  intro k
                  induction k with
                  | zero => exact .nil
                  | succ k ih => rw [zerosA_succ]; exact hzz.append ih
                exact this k)
          obtain ⟨out', f1, f2⟩ := fill_sound _ _ _ _ ((Array.range (len * n)).map (zero'[· % zero'.size]!)) _ hout (by rw [hstart]; exact hself) h1 h2
          have hlen : out.length = len * n := by rw [fill_zero hout, zerosA_len, e6]
          have hsz : out'.size = len * n := by rw [← Array.length_toList, ← f2.1, hlen]
          refine ⟨_, _, ?_, made_slice (t := e) (cap := len) (by rw [hlen, ← hsz, ← Array.length_toList, List.take_length]; exact f2) (by omega) (Nat.le_refl _) (by omega)⟩
          have f1' : Instr.fill (fun i => some (i * n, n)) ((Array.range (len * n)).map (zero'[· % zero'.size]!)) (parts.toList.map fun x => (x.1, ρ' x.2)) = some out' := f1
          have hb' : ¬ len * n > 16777216 := by omega
          by_cases h0 : len * n = 0
          · have : zero' = #[] := by simp [zero', h0]
            rw [this, h0] at f1'
            simp [execOp, Instr.buildSlice, run_und e1, run_sizeOf e2, h0, newRow]
            simp at f1'
            simp [f1']
          · have : zero' = zv.cells := by simp [zero', h0]
            rw [this] at f1'
            simp [execOp, Instr.buildSlice, run_und e1, run_sizeOf e2, h0, newRow, run_zero e3, hb', f1']
        · simp at h
      · simp at h
    · simp at h
  case makeSlice t l c =>
    unfold makeSliceA at h
    split at h
    · rename_i n wb z hzr
      obtain ⟨e, zv, e1, e2, e3, e4, rfl, e6, e7⟩ := zeroRow_info hzr
      split at h
      · rename_i a b hl hc'
        split at h
        · rename_i b1 b2 b3
          have b1 := Nat.le_of_ble_eq_true b1
          have b2 := Nat.le_of_ble_eq_true b2
          have b3 := Nat.le_of_ble_eq_true b3
          unfold newRowA at h
          simp only [Option.some.injEq, Prod.mk.injEq] at h
          obtain ⟨rfl, rfl⟩ := h
          have hl' := hρ l
          have hc'' := hρ c
          rw [hl] at hl'
          rw [hc'] at hc''
          have hl' := int_inv hl'
          have hc'' := int_inv hc''
          obtain ⟨_, hcells⟩ := flat_cells (φ := φ) (hz e zv e3)
          have hzl : zv.cells.toList = cellsOf zv := by cases zv <;> rfl
          have hzs : zv.cells.size = n := by rw [← Array.length_toList, hzl, e6]
          have hzz : LRel φ (cellsOf zv) (cellsOf zv) := by rw [← hzl] at hcells ⊢; exact hcells
          have hself : ∀ k, LRel φ (zerosA (cellsOf zv) k) (zerosA (cellsOf zv) k) := by
            intro k
            induction k with
            | zero => exact .nil
            | succ k ih => rw [zerosA_succ]; exact hzz.append ih
          let zero' : Array Value := if b * n = 0 then #[] else zv.cells
          have hstart : ((Array.range (b * n)).map (zero'[· % zero'.size]!)).toList = zerosA (cellsOf zv) b := by
            by_cases h0 : b * n = 0
            · have : (zerosA (cellsOf zv) b) = [] := List.eq_nil_of_length_eq_zero (by rw [zerosA_len, e6, h0])
              rw [this, h0]; simp
            · have : zero' = zv.cells := by simp [zero', h0]
              rw [this, ← hzl, ← range_zeros, hzs]
          have hpre : (zerosA (cellsOf zv) b).take (a * n) = zerosA (cellsOf zv) a := by
            apply List.ext_getElem?
            intro i
            have hab : a * n ≤ b * n := Nat.mul_le_mul_right n b1
            by_cases hi : i < a * n
            · rw [List.getElem?_take_of_lt hi, zerosA_get _ _ _ (by rw [e6]; omega), zerosA_get _ _ _ (by rw [e6]; omega)]
            · rw [List.getElem?_eq_none (by rw [List.length_take, zerosA_len, e6]; omega), List.getElem?_eq_none (by rw [zerosA_len, e6]; omega)]
          have hsz : ((Array.range (b * n)).map (zero'[· % zero'.size]!)).size = b * n := by simp
          have hab : a * n ≤ b * n := Nat.mul_le_mul_right n b1
          refine ⟨_, _, ?_, made_slice (t := e) (cap := b) (ys := (Array.range (b * n)).map (zero'[· % zero'.size]!)) ?_ ?_ b1 (by omega)⟩
          · obtain ⟨inf, i1, i2⟩ := info_of_bytes e4
            have hw1 : IntKind.i64.wrap (Int.ofNat a) = (a : Int) := IntWalk.i64_in _ ⟨by simp only [Int.ofNat_eq_natCast]; omega, by simp only [Int.ofNat_eq_natCast]; omega⟩
            have hw2 : IntKind.i64.wrap (Int.ofNat b) = (b : Int) := IntWalk.i64_in _ ⟨by simp only [Int.ofNat_eq_natCast]; omega, by simp only [Int.ofNat_eq_natCast]; omega⟩
            have hbig : ¬ (281474976710656 : Int) < (wb : Int) * (b : Int) := by
              have : ((wb * b : Nat) : Int) ≤ 140737488355328 := by omega
              rw [Int.natCast_mul] at this
              omega
            have hti : (typeInfo e).run P w = .ok inf w := by simp [typeInfo, i1]
            have hlt : ¬ ((a : Int) < 0) := by omega
            have hgt : ¬ ((b : Int) < 0) := by omega
            have hle : ¬ ((b : Int) < (a : Int)) := by omega
            simp only [Int.ofNat_eq_natCast] at hw1 hw2 hl' hc''
            by_cases h0 : b * n = 0
            · have : zero' = #[] := by simp [zero', h0]
              rw [this]
              simp [execOp, Instr.makeSlice, run_und e1, hl', hc'', asInt, asIntOf, hti, i2, hw1, hw2, hbig, hlt, hgt, hle, run_sizeOf e2, h0, newRow]
            · have : zero' = zv.cells := by simp [zero', h0]
              rw [this]
              simp [execOp, Instr.makeSlice, run_und e1, hl', hc'', asInt, asIntOf, hti, i2, hw1, hw2, hbig, hlt, hgt, hle, run_sizeOf e2, h0, newRow, run_zero e3]
          · rw [hstart, zerosA_len, e6, hpre]; exact hself a
          · rw [zerosA_len, e6]; omega
        · simp at h
      · simp at h
    · simp at h
  case makeMap t r =>
    unfold makeMapA at h
    split at h
    · rename_i kv hkv
      obtain ⟨kt, vt⟩ := kv
      have hm := mapT_inv hkv
      have fin : ∀ w', w' = { w with heap := w.heap.push (.map #[] 0) } → Made φ w w' (.map []) (fun i => .map (some i)) (.map (some w.heap.size)) := by
        intro w' hw'
        subst hw'
        refine ⟨rfl, grown_push w _, 0, fun φ' i _ hi => ⟨⟨rfl, #[], 0, by simp, rfl, fun j x y hx => by simp at hx⟩, .map hi⟩⟩
      split at h
      · rename_i hr
        simp only [Option.some.injEq, Prod.mk.injEq] at h
        obtain ⟨rfl, rfl⟩ := h
        cases r with
        | some x => simp [optVal] at hr
        | none => exact ⟨_, _, by simp [execOp, Instr.makeMap], fin _ rfl⟩
      · rename_i k n hr
        simp only [Option.some.injEq, Prod.mk.injEq] at h
        obtain ⟨rfl, rfl⟩ := h
        cases r with
        | none => simp [optVal] at hr
        | some x =>
          simp only [optVal, Option.some.injEq] at hr
          have hx := hρ x
          rw [hr] at hx
          exact ⟨_, _, by simp [execOp, Instr.makeMap, run_und hm, int_inv hx, asInt, asIntOf], fin _ rfl⟩
      · simp at h
    · simp at h
  case convert s d x =>
    unfold bytesOfA at h
    split at h
    · rename_i hto
      split at h
      · rename_i st hst
        have hx := hρ x
        rw [hst] at hx
        have hx := string_inv hx
        simp only [Option.some.injEq, Prod.mk.injEq] at h
        obtain ⟨rfl, rfl⟩ := h
        unfold toBytesT at hto
        split at hto
        · rename_i e hk he
          obtain ⟨d', h0, h1, _⟩ := kind_of (P := P) (t := s) hk (by decide)
          have h1 := h1 rfl
          subst h1
          obtain ⟨e1, e2⟩ := elem_info he
          have e3 := byte_info hto
          obtain ⟨v', w', h2, h3⟩ := stringToBytes_made (P := P) (φ := φ) w e st
          refine ⟨v', w', ?_, h3⟩
          simp [execOp, convert, run_und h0, run_und e1, run_und e3, hx, h2]
        · simp at hto
      · simp at h
    · simp at h
  all_goals simp at h

end Go.Abs

namespace Go.Abs

variable {P : Program} {φ : Phi} {H H' : AHeap} {w : World}

theorem store_sound {t : TypeId} {x x' y y' v : Value} (hR : Rel φ H w) (h : storeA (sizeT P t) x y H = some (v, H')) (hx : VRel φ x x') (hy : VRel φ y y') :
    ∃ w', (Instr.storeAt t x' y').run P w = .ok () w' ∧ Rel φ H' w' ∧ Step φ H w φ H' w' ∧ v = undef := by
  unfold storeA at h
  split at h
  · rename_i a
    split at h
    · rename_i n hn
      split at h
      · rename_i hb
        have hb := Nat.eq_of_beq_eq_true hb
        rw [len_eq] at hb
        split at h
        · rename_i H1 hs
          simp only [Option.some.injEq, Prod.mk.injEq] at h
          obtain ⟨rfl, rfl⟩ := h
          obtain ⟨i, o, b, c, l, rfl, e2, rfl⟩ := ptr_inv hx
          obtain ⟨xs, _, _, _, h4, _⟩ := store_inv hs
          have hc := cells_rel hy h4
          obtain ⟨w', h5, h6, h7⟩ := hR.store hs e2 hc
          refine ⟨w', ?_, h6, h7, rfl⟩
          have hsz : y'.cells.size = n := by rw [← Array.length_toList, ← hc.1, hb]
          simp [Instr.storeAt, Instr.sureAddr, storeVar, run_sizeOf hn, hsz, h5]
        · simp at h
      · simp at h
    · simp at h
  · simp at h

theorem bytes_toVals (s : ByteArray) (k : Nat) : ((s.extract 0 k).data.map fun b => Value.int .u8 b.toNat).toList = (byteVals s).take k := by
  simp [byteVals, ByteArray.data_extract]

theorem byteVals_rel (s : ByteArray) (k : Nat) : LRel φ ((byteVals s).take k) ((byteVals s).take k) := by
  have : LRel φ (byteVals s) (byteVals s) := LRel.map (α := UInt8) (fun b => VRel.int .u8 _) s.data.toList
  exact this.take k

theorem loadCells_zero (a : Addr) (w : World) : (loadCells a 0).run P w = .ok #[] w := rfl

/-- What is appended or copied. -/
theorem src_sound {n : Nat} {x x' : Value} {m : Nat} {new : List Value} (hR : Rel φ H w) (h : srcCells H n x = some (m, new)) (hx : VRel φ x x') :
    (∀ W : World, (Builtin.lenOf x').run P W = .ok m W) ∧ ∃ ys : Array Value, (∀ W : World, W.heap = w.heap → (Builtin.firstCells n m x').run P W = .ok ys W) ∧ LRel φ new ys.toList ∧ new.length = m * n := by
  unfold srcCells at h
  split at h
  · simp only [Option.some.injEq, Prod.mk.injEq] at h
    obtain ⟨rfl, rfl⟩ := h
    cases hx with
    | sliceNil => exact ⟨fun W => by simp [Builtin.lenOf], #[], fun W _ => by simp [Builtin.firstCells], .nil, by simp⟩
  · rename_i a len w0
    split at h
    · rename_i l hb hc
      have hb := Nat.eq_of_beq_eq_true hb
      subst hb
      simp only [Option.some.injEq, Prod.mk.injEq] at h
      obtain ⟨rfl, rfl⟩ := h
      obtain ⟨i1, o1, b1, c, l0, cap, a', rfl, e2, e3, e4, e5, rfl⟩ := slice_inv hx
      obtain ⟨ys, hr, hrun⟩ := hR.cells hc e2
      refine ⟨fun W => by simp [Builtin.lenOf], ys.toArray, fun W hW => ?_, by simpa using hr, cells_len hc⟩
      rcases e5 with e5 | e5
      · have hn : len = 0 := by omega
        subst hn
        have : l = [] := by have := cells_len hc; simpa using this
        subst this
        have : ys = [] := by have := hr.1; simpa using this.symm
        subst this
        simp [Builtin.firstCells, loadCells_zero]
      · subst e5
        simp [Builtin.firstCells, hrun P W hW]
    · simp at h
  · rename_i s
    split at h
    · simp only [Option.some.injEq, Prod.mk.injEq] at h
      obtain ⟨rfl, rfl⟩ := h
      rw [string_inv hx]
      refine ⟨fun W => by simp [Builtin.lenOf], _, fun W _ => rfl, ?_, by simp [byteVals]⟩
      rw [bytes_toVals]
      have : (byteVals s).take s.size = byteVals s := by
        have : (byteVals s).length = s.size := by simp [byteVals]
        rw [← this, List.take_length]
      rw [this]
      have := byteVals_rel (φ := φ) s s.size
      rwa [‹(byteVals s).take s.size = byteVals s›] at this
    · simp at h
  · simp at h

theorem rowBytes_info {t : TypeId} {n wb : Nat} (h : rowBytesT P t = some (n, wb)) :
    0 < n ∧ ∃ e zv, P.underlying t = some (.slice e) ∧ sizeT P e = some n ∧ zeroT P e = some zv ∧ bytesT P e = some wb ∧ (cellsOf zv).length = n := by
  unfold rowBytesT at h
  split at h
  · rename_i k w' z hz
    simp only [Option.some.injEq, Prod.mk.injEq] at h
    obtain ⟨rfl, rfl⟩ := h
    obtain ⟨e, zv, e1, e2, e3, e4, rfl, e6, e7⟩ := zeroRow_info hz
    exact ⟨by omega, e, zv, e1, e2, e3, e4, e6⟩
  · simp at h

theorem nextcap_le (need old : Nat) (h : old < need) : Builtin.nextslicecap need old ≤ 2 * need + 192 := by
  unfold Builtin.nextslicecap
  split
  · omega
  · split
    · omega
    · have : ∀ r c, c ≤ need + (need + 768) / 4 → Builtin.growBy need r c ≤ need + (need + 768) / 4 := by
        intro r
        induction r with
        | zero => intro c hc; exact hc
        | succ r ih =>
          intro c hc
          simp only [Builtin.growBy]
          split
          · exact hc
          · exact ih _ (by omega)
      have := this 4 old (by omega)
      omega

theorem zeroCells_size (z : Array Value) (k : Nat) : (Builtin.zeroCells z k).size = k * z.size := by simp [Builtin.zeroCells]

/-- The concrete append of so many cells in a row. -/
theorem append_sound {t : TypeId} {s s' x x' v : Value} (hR : Rel φ H w) (hf : H.next < H'.next → φ H.next = none) (h : appendA (rowBytesT P t) s x H = some (v, H')) (hs : VRel φ s s') (hx : VRel φ x x')
    (ts : Array TypeId) (xs : Array Value) (ty : TypeId) (ht : ts[0]? = some t) (hu : ts[1]? = none ∨ ∃ u d, ts[1]? = some u ∧ P.underlying u = some d ∧ ∀ k, d ≠ .int k) (h0 : xs[0]? = some s') (h1 : xs[1]? = some x') :
    ∃ v' w' φ', (Builtin.append_ ts ty xs).run P w = .ok v' w' ∧ Rel φ' H' w' ∧ Step φ H w φ' H' w' ∧ VRel φ' v v' := by
  unfold appendA at h
  split at h
  · rename_i n wb hrow
    obtain ⟨hn, e, zv, e1, e2, e3, e4, e5⟩ := rowBytes_info hrow
    obtain ⟨inf, i1, i2⟩ := info_of_bytes e4
    split at h
    · rename_i m new hsrc
      obtain ⟨hlen, ys, hfirst, hnew, hnl⟩ := src_sound (P := P) hR hsrc hx
      split at h
      · rename_i b1 b2 b3
        rw [allL_eq] at b3
        replace b1 := Nat.le_of_ble_eq_true b1
        replace b2 := Nat.le_of_ble_eq_true b2
        have hti : ∀ W : World, (typeInfo e).run P W = .ok inf W := fun W => by simp [typeInfo, i1]
        have hroom : ∀ base sLen sCap, s' = .slice base sLen sCap → sLen + m ≤ sCap → (Builtin.append_ ts ty xs).run P w =
            ((match base with
              | some a => storeCells (a.add (sLen * n)) ys.toList
              | none => pure () : Sem Unit).run P w).andThen fun _ w' => .ok (.slice base (sLen + m) sCap) w' := by
          intro base sLen sCap hs' hle
          subst hs'
          rcases hu with hu | ⟨u, d, hu, hd, hk⟩
          · cases base <;> simp [Builtin.append_, ht, h0, h1, hu, run_und e1, run_sizeOf e2, hlen, hle, hfirst w rfl]
          · cases base <;> simp [Builtin.append_, ht, h0, h1, hu, run_und e1, run_und hd, run_sizeOf e2, hlen, hle, hfirst w rfl]
        have hgrow : ∀ base sLen sCap (old : Array Value), s' = .slice base sLen sCap → ¬ sLen + m ≤ sCap → (∀ W : World, W.heap = w.heap → (Builtin.firstCells n sLen s').run P W = .ok old W) → sLen + m ≤ 2 ^ 40 → (sLen + m) * wb ≤ 2 ^ 40 →
            ∃ cap, sLen + m ≤ cap ∧ (Builtin.append_ ts ty xs).run P w = .ok (.slice (some ⟨w.heap.size, 0, none⟩) (sLen + m) cap)
              { w with drawn := w.drawn + 1, heap := w.heap.push (.cells (old ++ ys ++ Builtin.zeroCells zv.cells (cap - (sLen + m))) e) } := by
          intro base sLen sCap old hs' hle hold hb1 hb2
          have hnext := nextcap_le (sLen + m) sCap (by omega)
          have hbytes : ¬ (281474976710656 : Nat) < Builtin.nextslicecap (sLen + m) sCap * wb := by
            have h1 : Builtin.nextslicecap (sLen + m) sCap * wb ≤ (2 * (sLen + m) + 192) * wb := Nat.mul_le_mul_right wb hnext
            have h2 : (2 * (sLen + m) + 192) * wb = 2 * ((sLen + m) * wb) + 192 * wb := by rw [Nat.add_mul, Nat.mul_assoc]
            have h3 : 1 * wb ≤ (sLen + m) * wb := Nat.mul_le_mul_right wb (by omega)
            omega
          have hmax : ¬ (9223372036854775807 : Int) < (sLen : Int) + (m : Int) := by omega
          have hmaxv : IntKind.i64.max = 9223372036854775807 := rfl
          subst hs'
          refine ⟨(Question.appendCap (sLen + m) sCap e).cut (w.tape w.drawn (.appendCap (sLen + m) sCap e)), by simp only [Question.cut]; omega, ?_⟩
          have hold' := hold w.drew rfl
          have hfirst' := hfirst w.drew rfl
          rcases hu with hu | ⟨u, d, hu, hd, hk⟩
          · simp [Builtin.append_, ht, h0, h1, hu, run_und e1, run_sizeOf e2, hlen, hle, hti, i2, hbytes, hmax, hmaxv, Question.forced, hold', hfirst', run_zero e3, newRow]; rfl
          · simp [Builtin.append_, ht, h0, h1, hu, run_und e1, run_und hd, run_sizeOf e2, hlen, hle, hti, i2, hbytes, hmax, hmaxv, Question.forced, hold', hfirst', run_zero e3, newRow]; rfl
        have hgrown : ∀ (old : Array Value) (cap : Nat), Grown w { w with drawn := w.drawn + 1, heap := w.heap.push (.cells (old ++ ys ++ Builtin.zeroCells zv.cells (cap)) e) } := fun old cap =>
          ⟨by simp, fun b hb => by simp [Array.getElem?_push]; omega, rfl, rfl, rfl⟩
        have hzs : zv.cells.size = n := by
          have : zv.cells.toList = cellsOf zv := by cases zv <;> rfl
          rw [← Array.length_toList, this, e5]
        cases s with
        | slice base sLen w0 =>
          simp only [lenOfSlice] at b1 b2
          simp only [appendTo] at h
          split at h
          · -- nothing is appended
            simp only [Option.some.injEq, Prod.mk.injEq] at h
            obtain ⟨rfl, rfl⟩ := h
            cases hs with
            | sliceNil =>
              have := hroom _ _ _ rfl (by omega)
              refine ⟨_, w, φ, by rw [this]; simp, hR, .refl _ _ _, .sliceNil⟩
            | slice q1 q2 q3 q4 =>
              rename_i i o b c l cap a
              have hys : ys.toList = [] := by
                have := hnew.1
                rw [hnl] at this
                simpa using this.symm
              have := hroom _ _ _ rfl (by omega)
              refine ⟨_, w, φ, by rw [this, hys]; simp [storeCells], hR, .refl _ _ _, .slice q1 q2 q3 q4⟩
          · rename_i m0
            split at h
            · -- onto nil
              split at h
              · simp only [Option.some.injEq, Prod.mk.injEq] at h
                obtain ⟨rfl, rfl⟩ := h
                replace hf : φ H.next = none := hf (by rw [AHeap.next_push]; omega)
                cases hs with
                | sliceNil =>
                  obtain ⟨cap, hcap, hrun⟩ := hgrow none 0 0 #[] rfl (by omega) (fun W _ => by simp [Builtin.firstCells]) (by omega) (by omega)
                  have hsz : (#[] ++ ys ++ Builtin.zeroCells zv.cells (cap - (0 + (m0 + 1)))).size = cap * n := by
                    have h1 : ys.size = (m0 + 1) * n := by rw [← Array.length_toList, ← hnew.1, hnl]
                    simp only [Array.size_append, zeroCells_size, hzs, h1, List.size_toArray, List.length_nil]
                    rw [Nat.zero_add, Nat.zero_add, ← Nat.add_mul]; congr 1; omega
                  have hB : BRel (withP φ H.next (w.heap.size, 0, cap * n)) { w with drawn := w.drawn + 1, heap := w.heap.push (.cells (#[] ++ ys ++ Builtin.zeroCells zv.cells (cap - (0 + (m0 + 1)))) e) } w.heap.size 0 (cap * n) (.cells new) := by
                    refine ⟨_, e, (0, 0), by simp, hsz, ?_, .inl rfl, fun j y hy => ?_⟩
                    · rw [hnl, Nat.zero_add]; exact Nat.mul_le_mul_right n (by omega)
                    · obtain ⟨z, hz, hv⟩ := hnew.get hy
                      rw [Array.getElem?_toList] at hz
                      refine ⟨z, ?_, hv.mono (le_withP _ hf)⟩
                      rw [Nat.zero_add]
                      have hj : j < ys.size := (Array.getElem?_eq_some_iff.1 hz).1
                      rw [Array.getElem?_append_left (by simp; omega)]
                      simpa using hz
                  obtain ⟨r1, r2⟩ := hR.push hf rfl (hgrown #[] (cap - (0 + (m0 + 1)))) hB
                  refine ⟨_, _, _, hrun, r1, r2, ?_⟩
                  have := VRel.slice (φ := withP φ H.next (w.heap.size, 0, cap * n)) (i := H.next) (o := 0) (n := m0 + 1) (w := n) (cap := cap) (a := ⟨w.heap.size, 0, none⟩) (withP_same _ _ _) (by omega) (by omega) (.inr rfl)
                  simpa using this
              · simp at h
            · rename_i a0
              split at h
              · rename_i old hb hcell hmw
                have hb := Nat.eq_of_beq_eq_true hb
                subst hb
                simp only [Option.some.injEq, Prod.mk.injEq] at h
                obtain ⟨rfl, rfl⟩ := h
                replace hf : φ H.next = none := hf (by rw [AHeap.next_push, AHeap.next_set]; omega)
                obtain ⟨i, o, b, c, l, cap, a', rfl, q1, q2, q3, q4, rfl⟩ := slice_inv hs
                obtain ⟨zs, g1, _, g3, rfl⟩ := cells_inv hcell
                simp only at g1 g3
                unfold mayWrite at hmw
                simp only at hmw
                split at hmw
                · rename_i zs' hget
                  have hzs' : zs' = zs := by rw [hget] at g1; simpa [rowOf] using g1
                  subst hzs'
                  obtain ⟨b', c', l', k1, cs, e', f, k2, k3, k4, k5, k6⟩ := hR.blk i _ hget
                  rw [q1] at k1
                  simp only [Option.some.injEq, Prod.mk.injEq] at k1
                  obtain ⟨rfl, rfl, rfl⟩ := k1
                  have hxs : ((zs'.drop o).take (sLen * w0)).length = sLen * w0 := by simp; omega
                  by_cases hle : sLen + (m0 + 1) ≤ cap
                  · -- within the capacity
                    have ha : a' = ⟨b, c + o, none⟩ := q4.resolve_left (by omega)
                    subst ha
                    have hmul : sLen * w0 + (m0 + 1) * w0 ≤ cap * w0 := by rw [← Nat.add_mul]; exact Nat.mul_le_mul_right w0 hle
                    have hyl : ys.toList.length = (m0 + 1) * w0 := by rw [← hnew.1, hnl]
                    have hone : ∀ v ∈ ys.toList, v.oneCell' = true := all_one_rel hnew b3
                    have hk : m0.succ * w0 = (m0 + 1) * w0 := rfl
                    obtain ⟨cs', t1, t2, t3⟩ := heap_setCells b ys.toList (c + o + sLen * w0) w cs e' f k2 (by rw [hyl]; omega)
                    have hst := run_storeCells_rel P k2 (o := c + o + sLen * w0) (vs := ys.toList) (by rw [hyl]; omega) (by rw [k3]; exact k5) hone
                    have hB : BRel (withP φ H.next (b, c + o, l)) (w.setCells b (c + o + sLen * w0) ys.toList) b (c + o) l (.cells (app ((zs'.drop o).take (sLen * w0)) new)) := by
                      refine ⟨cs', e', f, t1, by rw [t2, k3], by rw [app_eq, List.length_append, hxs, hnl]; omega, k5, fun j y hy => ?_⟩
                      rw [t3]
                      rw [app_eq, List.getElem?_append, hxs] at hy
                      split at hy
                      · rename_i hj
                        rw [if_neg (by omega)]
                        rw [List.getElem?_take_of_lt hj, List.getElem?_drop] at hy
                        obtain ⟨z, hz, hv⟩ := k6 _ y hy
                        exact ⟨z, by rw [Nat.add_assoc]; exact hz, hv.mono (le_withP _ hf)⟩
                      · rename_i hj
                        obtain ⟨z, hz, hv⟩ := hnew.get hy
                        have hjl : j - sLen * w0 < ys.toList.length := (List.getElem?_eq_some_iff.1 hz).1
                        rw [if_pos (by omega)]
                        refine ⟨z, ?_, hv.mono (le_withP _ hf)⟩
                        rw [show c + o + j - (c + o + sLen * w0) = j - sLen * w0 by omega]
                        exact hz
                    obtain ⟨r1, r2⟩ := hR.move hf hget rfl rfl q1 (turned_setCells b ys.toList (c + o + sLen * w0) w) hB
                    have hrun := hroom _ _ _ rfl hle
                    refine ⟨.slice (some ⟨b, c + o, none⟩) (sLen + (m0 + 1)) cap, _, _, ?_, r1, r2, ?_⟩
                    · rw [hrun]
                      simp only [Addr.add_none, hst, Result.andThen_ok]
                    · have := VRel.slice (φ := withP φ H.next (b, c + o, l)) (i := H.next) (o := 0) (n := sLen + (m0 + 1)) (w := w0) (cap := cap) (a := ⟨b, c + o, none⟩) (withP_same _ _ _) hle (by omega) (.inr rfl)
                      exact this
                  · -- a new array
                    have hold : ∃ olds : Array Value, (∀ W : World, W.heap = w.heap → (Builtin.firstCells w0 sLen (.slice (some a') sLen cap)).run P W = .ok olds W) ∧ LRel φ ((zs'.drop o).take (sLen * w0)) olds.toList := by
                      obtain ⟨us, hr, hrun⟩ := hR.cells hcell q1
                      refine ⟨us.toArray, fun W hW => ?_, by simpa using hr⟩
                      rcases q4 with q4 | q4
                      · have hn0 : sLen = 0 := by omega
                        subst hn0
                        have : us = [] := by have := hr.1; simpa using this.symm
                        subst this
                        simp [Builtin.firstCells, loadCells_zero]
                      · subst q4
                        simp [Builtin.firstCells, hrun P W hW]
                    obtain ⟨olds, hol, hor⟩ := hold
                    obtain ⟨ncap, hcap, hrun⟩ := hgrow _ _ _ olds rfl hle hol (by omega) (by omega)
                    have hsz : (olds ++ ys ++ Builtin.zeroCells zv.cells (ncap - (sLen + (m0 + 1)))).size = ncap * w0 := by
                      have h1 : ys.size = (m0 + 1) * w0 := by rw [← Array.length_toList, ← hnew.1, hnl]
                      have h2 : olds.size = sLen * w0 := by rw [← Array.length_toList, ← hor.1, hxs]
                      simp only [Array.size_append, zeroCells_size, hzs, h1, h2]
                      rw [← Nat.add_mul, ← Nat.add_mul]; congr 1; omega
                    have hB : BRel (withP φ H.next (w.heap.size, 0, ncap * w0)) { w with drawn := w.drawn + 1, heap := w.heap.push (.cells (olds ++ ys ++ Builtin.zeroCells zv.cells (ncap - (sLen + (m0 + 1)))) e) } w.heap.size 0 (ncap * w0) (.cells (app ((zs'.drop o).take (sLen * w0)) new)) := by
                      refine ⟨_, e, (0, 0), by simp, hsz, ?_, .inl rfl, fun j y hy => ?_⟩
                      · rw [app_eq, List.length_append, hxs, hnl, ← Nat.add_mul, Nat.zero_add]; exact Nat.mul_le_mul_right w0 hcap
                      · rw [app_eq] at hy
                        obtain ⟨z, hz, hv⟩ := (hor.append hnew).get hy
                        refine ⟨z, ?_, hv.mono (le_withP _ hf)⟩
                        rw [Nat.zero_add]
                        have hj : j < (olds ++ ys).size := by
                          have := (List.getElem?_eq_some_iff.1 hz).1
                          simpa using this
                        rw [Array.getElem?_append_left hj, ← Array.getElem?_toList, Array.toList_append]
                        exact hz
                    obtain ⟨d1, d2⟩ := hR.drop i
                    have hd1 : Rel φ (H.set i none) w := d1
                    obtain ⟨r1, r2⟩ := hd1.push (by rw [AHeap.next_set]; exact hf) rfl (hgrown olds (ncap - (sLen + (m0 + 1)))) hB
                    refine ⟨_, _, _, hrun, r1, d2.trans r2, ?_⟩
                    have := VRel.slice (φ := withP φ H.next (w.heap.size, 0, ncap * w0)) (i := H.next) (o := 0) (n := sLen + (m0 + 1)) (w := w0) (cap := ncap) (a := ⟨w.heap.size, 0, none⟩) (withP_same _ _ _) hcap (by omega) (.inr rfl)
                    simpa [AHeap.next_set] using this
                · simp at hmw
              · simp at h
        | _ => simp [appendTo] at h
      · simp at h
    · simp at h
  · simp at h

end Go.Abs

namespace Go.Abs

variable {P : Program} {φ : Phi} {H H' : AHeap} {w : World}

theorem copyTo_sound {i o b c l k : Nat} {v : Value} {xs ys : List Value} (hR : Rel φ H w) (hp : φ i = some (b, c, l)) (h : copyTo (some ⟨i, o, none⟩) k xs H = some (v, H')) (hr : LRel φ xs ys) :
    v = .int .i64 (.ofNat k) ∧ ∃ w', (∀ P : Program, (storeCells ⟨b, c + o, none⟩ ys).run P w = .ok () w') ∧ Rel φ H' w' ∧ Step φ H w φ H' w' := by
  unfold copyTo at h
  split at h
  · rename_i a ha
    injection ha with ha
    subst ha
    split at h
    · rename_i H1 hs
      simp only [Option.some.injEq, Prod.mk.injEq] at h
      obtain ⟨rfl, rfl⟩ := h
      exact ⟨rfl, hR.store hs hp hr⟩
    · simp at h
  · simp at *

theorem copyTo_none {k : Nat} {v : Value} {xs : List Value} (h : copyTo none k xs H = some (v, H')) : v = .int .i64 (.ofNat k) ∧ H' = H ∧ xs = [] := by
  unfold copyTo at h
  split at h
  · simp at *
  · split at h
    · simp only [Option.some.injEq, Prod.mk.injEq] at h
      exact ⟨h.1.symm, h.2.symm, rfl⟩
    · simp at h

/-- The copied cells lie where the slice begins. -/
theorem copy_sound {t : TypeId} {d d' x x' v : Value} (hR : Rel φ H w) (h : copyA (rowBytesT P t) d x H = some (v, H')) (hd : VRel φ d d') (hx : VRel φ x x')
    (ts : Array TypeId) (xs : Array Value) (ty : TypeId) (ht : ts[0]? = some t) (h0 : xs[0]? = some d') (h1 : xs[1]? = some x') :
    ∃ v' w', (Builtin.copy_ ts ty xs).run P w = .ok v' w' ∧ Rel φ H' w' ∧ Step φ H w φ H' w' ∧ VRel φ v v' := by
  unfold copyA at h
  split at h
  · rename_i n wb base dlen w0 hrow
    obtain ⟨hn, e, zv, e1, e2, e3, e4, e5⟩ := rowBytes_info hrow
    split at h
    · rename_i hbw
      -- so many cells, from the source
      have main : ∀ (k : Nat) (src : List Value), copyTo base k src H = some (v, H') →
          (∃ sl, (Builtin.lenOf x').run P w = .ok sl w ∧ Nat.min sl dlen = k) →
          (∃ ys : Array Value, (Builtin.firstCells n k x').run P w = .ok ys w ∧ LRel φ src ys.toList) → src.length = k * n →
          ∃ v' w', (Builtin.copy_ ts ty xs).run P w = .ok v' w' ∧ Rel φ H' w' ∧ Step φ H w φ H' w' ∧ VRel φ v v' := by
        rintro k src hc ⟨sl, hl, hk⟩ ⟨ys, hf, hr⟩ hsl
        cases hd with
        | sliceNil =>
          obtain ⟨rfl, rfl, rfl⟩ := copyTo_none hc
          have hk0 : k = 0 := by have : k ≤ 0 := hk ▸ Nat.min_le_right sl 0; omega
          subst hk0
          refine ⟨_, w, ?_, hR, .refl _ _ _, .int _ _⟩
          simp [Builtin.copy_, ht, h0, h1, run_und e1, run_sizeOf e2, hl, hf, goInt]
        | slice q1 q2 q3 q4 =>
          rename_i i o b c l cap a
          obtain ⟨rfl, w', hst, r1, r2⟩ := copyTo_sound hR q1 hc hr
          have hst' : (storeCells a ys.toList).run P w = .ok () w' := by
            rcases q4 with q4 | q4
            · have hz : ys.toList = [] := by
                have hk0 : k = 0 := by have : k ≤ dlen := hk ▸ Nat.min_le_right sl dlen; omega
                have := hr.1
                rw [hsl, hk0] at this
                simpa using this.symm
              have := hst P
              rw [hz] at this ⊢
              exact this
            · subst q4; exact hst P
          refine ⟨_, w', ?_, r1, r2, .int _ _⟩
          simp [Builtin.copy_, ht, h0, h1, run_und e1, run_sizeOf e2, hl, hk, hf, goInt, hst']
      split at h
      · simp only [Option.some.injEq, Prod.mk.injEq] at h
        obtain ⟨rfl, rfl⟩ := h
        cases hx
        have hfc : (Builtin.firstCells n 0 (.slice none 0 0)).run P w = .ok #[] w := by simp [Builtin.firstCells]
        cases hd with
        | sliceNil =>
          exact ⟨_, w, by simp [Builtin.copy_, ht, h0, h1, run_und e1, run_sizeOf e2, Builtin.lenOf, hfc, goInt], hR, .refl _ _ _, .int _ _⟩
        | slice q1 q2 q3 q4 =>
          exact ⟨_, w, by simp [Builtin.copy_, ht, h0, h1, run_und e1, run_sizeOf e2, Builtin.lenOf, hfc, goInt, storeCells], hR, .refl _ _ _, .int _ _⟩
      · rename_i bb slen w1
        split at h
        · rename_i l hw1 hcell
          have hw1 := Nat.eq_of_beq_eq_true hw1
          subst hw1
          obtain ⟨i1, o1, b1, c, l0, cap, a', rfl, f2, f3, f4, f5, rfl⟩ := slice_inv hx
          obtain ⟨us, hr, hrun⟩ := hR.cells hcell f2
          refine main _ _ h ⟨slen, by simp [Builtin.lenOf], rfl⟩ ⟨us.toArray, ?_, by simpa using hr⟩ (cells_len hcell)
          rcases f5 with f5 | f5
          · have hm : min slen dlen = 0 := by omega
            have : us = [] := by have := hr.1; rw [cells_len hcell, hm] at this; simpa using this.symm
            subst this
            rw [hm]
            simp [Builtin.firstCells, loadCells_zero]
          · subst f5
            simp [Builtin.firstCells, hrun P w rfl]
        · simp at h
      · rename_i st
        split at h
        · rw [takeL_eq] at h
          rw [string_inv hx] at main
          refine main _ _ h ⟨st.size, by simp [Builtin.lenOf], rfl⟩ ⟨_, rfl, ?_⟩ (by simp [byteVals])
          rw [bytes_toVals]
          exact byteVals_rel st _
        · simp at h
      · simp at h
    · simp at h
  · simp at h

/-! ### Map updates -/

theorem put_sound {t : TypeId} {k v v' : Value} {d : TypeDesc} (hk : keyOk P t k = true) (hd : P.underlying t = some d) (hv : VRel φ v v') : ∀ {es es' : List (Value × Value)} {ents : List MapEntry} (n : Nat), putKey k v es = some es' → ERel φ es ents →
    (Instr.findNow d k ents n = some none ∧ (∀ b, ERel φ es' (ents ++ [{ key := k, val := v', born := b }]))) ∨
    ∃ i u, Instr.findNow d k ents n = some (some (n + i, u)) ∧ i < ents.length ∧ (∃ y, ents[i]? = some y ∧ y.key = k) ∧ ∀ f : MapEntry → MapEntry, (∀ e, (f e).key = k ∧ (f e).val = v') → ERel φ es' (ents.modify i f)
  | [], es', [], n, h, _ => by
    simp only [putKey, Option.some.injEq] at h
    subst h
    refine .inl ⟨rfl, fun b => ⟨rfl, fun i x y hx hy => ?_⟩⟩
    cases i with
    | zero =>
      simp at hx hy
      subst hx hy
      have hkk : VRel φ k k := by
        unfold keyOk at hk
        split at hk <;> (try split at hk) <;> first
          | exact .int _ _
          | exact .string _
          | (simp at hk; done)
      exact ⟨hkk, hv⟩
    | succ i => simp at hx
  | [], _, _ :: _, _, _, hr => by have := hr.1; simp at this
  | _ :: _, _, [], _, _, hr => by have := hr.1; simp at this
  | (k', v0) :: es, es', y :: ents, n, h, hr => by
    have hkk : VRel φ k k := by
      unfold keyOk at hk
      split at hk <;> (try split at hk) <;> first
        | exact .int _ _
        | exact .string _
        | (simp at hk; done)
    unfold putKey at h
    obtain ⟨hk1, hv1⟩ := hr.head
    simp only at hk1 hv1
    split at h
    · rename_i he
      obtain ⟨d', e1, e2⟩ := keyEq_sameNow hk he
      rw [hd] at e1
      simp only [Option.some.injEq] at e1
      subst e1
      have hy : y.key = k' := (keyEq_rel he hkk hk1).2
      have hkk' : k' = k := by
        unfold keyEq at he
        split at he
        · split at he
          · rename_i hs
            rw [sameKind_eq] at hs
            simp only [Option.some.injEq, eqI_eq, beq_iff_eq] at he
            subst hs he; rfl
          · simp at he
        · simp only [Option.some.injEq, beq_iff_eq] at he
          congr 1
          exact ByteArray.ext (Array.ext' he.symm)
        · simp at he
      simp only [Option.some.injEq] at h
      subst h
      refine .inr ⟨0, y.val, by simp [Instr.findNow, hy, e2], by simp, ⟨y, rfl, by rw [hy, hkk']⟩, fun f hf => ⟨by simpa using hr.1, fun i a b ha hb => ?_⟩⟩
      cases i with
      | zero =>
        simp at ha hb
        subst ha hb
        rw [(hf y).1, (hf y).2]
        exact ⟨hkk, hv⟩
      | succ i =>
        simp at ha hb
        exact hr.2 (i + 1) a b (by simpa using ha) (by simpa using hb)
    · rename_i he
      obtain ⟨d', e1, e2⟩ := keyEq_sameNow hk he
      rw [hd] at e1
      simp only [Option.some.injEq] at e1
      subst e1
      have hy : y.key = k' := (keyEq_rel he hkk hk1).2
      split at h
      · rename_i es1 hp
        simp only [Option.some.injEq] at h
        subst h
        rcases put_sound hk hd hv (n + 1) hp hr.tail with ⟨h1, h2⟩ | ⟨i, u, h1, h2, ⟨z, hz1, hz2⟩, h3⟩
        · refine .inl ⟨by simp only [Instr.findNow, hy, e2]; exact h1, fun b => ⟨by simpa using (h2 b).1, fun i a c ha hc => ?_⟩⟩
          cases i with
          | zero => simp at ha hc; subst ha hc; exact ⟨hk1, hv1⟩
          | succ i => exact (h2 b).2 i a c (by simpa using ha) (by simpa using hc)
        · refine .inr ⟨i + 1, u, ?_, by simp; omega, ⟨z, by simpa using hz1, hz2⟩, fun f hf => ⟨by simpa using (h3 f hf).1, fun j a c ha hc => ?_⟩⟩
          · simp only [Instr.findNow, hy, e2, h1]
            rw [show n + 1 + i = n + (i + 1) by omega]
          · cases j with
            | zero => simp at ha hc; subst ha hc; exact ⟨hk1, hv1⟩
            | succ j => exact (h3 f hf).2 j a c (by simpa using ha) (by simpa using hc)
      · simp at h
    · simp at h

theorem sameBits_key {t : TypeId} {k : Value} (hk : keyOk P t k = true) (n : Nat) : Instr.sameBits n k k = true := by
  unfold keyOk at hk
  split at hk <;> (try split at hk) <;> first
    | (simp at hk; done)
    | (cases n <;> simp [Instr.sameBits, beq_toListBytes])

theorem update_sound {t : TypeId} {m m' k k' v v' r : Value} (hR : Rel φ H w) (h : updateA P (mapT P t) m k v H = some (r, H')) (hm : VRel φ m m') (hk : VRel φ k k') (hv : VRel φ v v') :
    ∃ w', (Instr.mapUpdate t m' k' v').run P w = .ok () w' ∧ Rel φ H' w' ∧ Step φ H w φ H' w' ∧ r = undef := by
  unfold updateA at h
  split at h
  · rename_i kt vt i hmt
    have hmt := mapT_inv hmt
    split at h
    · rename_i es hko hget
      obtain rfl := keyOk_rel hko hk
      obtain ⟨d, hd⟩ := findNow_desc hko
      split at h
      · rename_i es' hput
        simp only [Option.some.injEq, Prod.mk.injEq] at h
        obtain ⟨rfl, rfl⟩ := h
        rcases map_inv hm with ⟨h1, _⟩ | ⟨i', b, l, h1, h2, rfl⟩
        · simp at h1
        simp only [Option.some.injEq] at h1; subst h1
        obtain ⟨b', c, l', h3, h4, ents, clk, h5, h6, h7⟩ := hR.blk i _ hget
        rw [h2] at h3
        simp only [Option.some.injEq, Prod.mk.injEq] at h3
        obtain ⟨rfl, rfl, rfl⟩ := h3
        have hg : (getObj b).run P w = .ok (.map ents clk) w := by simp [getObj, Sem.run, h5]
        have hset : ∀ o : Obj, (setObj b o).run P w = .ok () { w with heap := w.heap.setIfInBounds b o } := by
          intro o; simp [setObj, Sem.run, h5]
        have hturn : ∀ o : Obj, Turned w { w with heap := w.heap.setIfInBounds b o } b := fun o =>
          ⟨by simp, fun b' hb => by simp [Ne.symm hb], rfl, rfl, rfl⟩
        have hlt : b < w.heap.size := (Array.getElem?_eq_some_iff.1 h5).1
        rcases put_sound hko hd hv 0 hput ⟨h6, h7⟩ with ⟨f1, f2⟩ | ⟨j, u, f1, f2, ⟨z, hz1, hz2⟩, f3⟩
        · have hE := f2 clk
          obtain ⟨r1, r2⟩ := hR.turn (B := .map es') hget rfl rfl h2 (hturn (.map (ents.push { key := k', val := v', born := clk }) (clk + 1)))
            ⟨rfl, ents.push { key := k', val := v', born := clk }, clk + 1, by simp [hlt], by rw [Array.toList_push]; exact hE.1, by rw [Array.toList_push]; exact hE.2⟩
          refine ⟨_, ?_, r1, r2, rfl⟩
          simp [Instr.mapUpdate, run_und hmt, hg, checkKey_run hko, Instr.findKey, run_und hd, f1, hset]
        · have hE := f3 (fun e => { e with key := k', val := v' }) (fun e => ⟨rfl, rfl⟩)
          obtain ⟨r1, r2⟩ := hR.turn (B := .map es') hget rfl rfl h2 (hturn (.map (ents.modify j fun e => { e with key := k', val := v' }) clk))
            ⟨rfl, ents.modify j fun e => { e with key := k', val := v' }, clk, by simp [hlt], by rw [Array.toList_modify]; exact hE.1, by rw [Array.toList_modify]; exact hE.2⟩
          refine ⟨_, ?_, r1, r2, rfl⟩
          have hz1' : ents[j]? = some z := by rw [← Array.getElem?_toList]; exact hz1
          have hkeep : (Instr.keyThatStays (((ents[j]?).map (·.key)).getD k') k').run P w = .ok k' w := by
            simp [hz1', hz2, Instr.keyThatStays, sameBits_key hko]
          simp only [Instr.mapUpdate, Sem.run_bind, run_und hmt, Result.andThen_ok, hg, checkKey_run hko, Instr.findKey, run_und hd, f1, Nat.zero_add, Sem.run_pure, hkeep, hset]
      · simp at h
    · simp at h
  · simp at h

/-! ### A slice of bytes as one of its own type -/

/-- A block's end is marked. -/
theorem Rel.marked {i b c l : Nat} {xs : List Value} (hR : Rel φ H w) (hget : H.get i = some (.cells xs)) (hp : φ i = some (b, c, l)) {cs : Array Value} {e : TypeId} {f : Nat × Nat} (hb : w.heap[b]? = some (.cells cs e f)) :
    Rel φ H (w.freeze ⟨b, cs.size, none⟩ 1) ∧ Step φ H w φ H (w.freeze ⟨b, cs.size, none⟩ 1) := by
  have hsize : (w.freeze ⟨b, cs.size, none⟩ 1).heap.size = w.heap.size := by simp [World.freeze]
  have hne : ∀ b', b' ≠ b → (w.freeze ⟨b, cs.size, none⟩ 1).heap[b']? = w.heap[b']? := fun b' h => by rw [freeze_heap, if_neg h]
  have hsame : (w.freeze ⟨b, cs.size, none⟩ 1).heap[b]? = some (.cells cs e (if f.1 == f.2 then (cs.size, cs.size + 1) else (min f.1 cs.size, max f.2 (cs.size + 1)))) := by
    rw [freeze_heap, if_pos rfl, hb]; rfl
  refine ⟨⟨fun j B hj => ?_, hR.inj, hR.lt⟩, ⟨fun _ _ => rfl, Nat.le_refl _, by rw [hsize]; exact Nat.le_refl _, fun b' _ hn => ⟨hne b' ?_, hn⟩, rfl, rfl, rfl, fun _ _ h _ => h⟩⟩
  · obtain ⟨b1, c1, l1, h1, h2⟩ := hR.blk j B hj
    refine ⟨b1, c1, l1, h1, ?_⟩
    by_cases e1 : b1 = b
    · subst e1
      cases B with
      | cells ys =>
        obtain ⟨cs', e', f', g1, g2, g3, g4, g5⟩ := h2
        rw [hb] at g1
        simp only [Option.some.injEq, Obj.cells.injEq] at g1
        obtain ⟨rfl, rfl, rfl⟩ := g1
        refine ⟨cs, e, _, hsame, g2, g3, .inr ?_, g5⟩
        split
        · simp only; omega
        · rename_i hf
          simp only [beq_iff_eq] at hf
          simp only
          omega
      | map es =>
        obtain ⟨_, ents, k, g1, _⟩ := h2
        rw [hb] at g1
        simp at g1
      | ro ys =>
        obtain ⟨cs', e', f', g1, g2, g3, g5⟩ := h2
        rw [hb] at g1
        simp only [Option.some.injEq, Obj.cells.injEq] at g1
        obtain ⟨rfl, rfl, rfl⟩ := g1
        exact ⟨cs, e, _, hsame, g2, g3, g5⟩
    · exact h2.mono (fun _ _ h => h) (hne b1 e1)
  · intro e1
    exact hn ⟨i, _, c, l, hget, rfl, e1 ▸ hp⟩

theorem reslice_sound {s d : TypeId} {x x' v : Value} (hR : Rel φ H w) (h : reslice (resliceT P s d) x H = some (v, H')) (hx : VRel φ x x') :
    ∃ v' w', (convert s d x').run P w = .ok v' w' ∧ Rel φ H' w' ∧ Step φ H w φ H' w' ∧ VRel φ v v' := by
  unfold reslice at h
  split at h
  · rename_i hT
    split at h
    · rename_i b o n w0
      split at h
      · rename_i hmw
        simp only [Option.some.injEq, Prod.mk.injEq] at h
        obtain ⟨rfl, rfl⟩ := h
        unfold resliceT at hT
        split at hT
        · rename_i e m hsd he
          have hsd := Nat.eq_of_beq_eq_true hsd
          subst hsd
          obtain ⟨e1, _⟩ := elem_info he
          have e2 := byte_info hT
          unfold mayWrite at hmw
          split at hmw
          · rename_i xs hget
            obtain ⟨i, o1, b1, c, l, cap, a', ha, q1, q2, q3, q4, rfl⟩ := slice_inv hx
            simp only [Addr.mk.injEq, and_true] at ha
            obtain ⟨rfl, rfl⟩ := ha
            have ha' : a' = ⟨b1, c + o, none⟩ := q4.resolve_left (by omega)
            subst ha'
            obtain ⟨b2, c2, l2, g1, cs, e', f, g2, _⟩ := hR.blk b _ hget
            rw [q1] at g1
            simp only [Option.some.injEq, Prod.mk.injEq] at g1
            obtain ⟨rfl, rfl, rfl⟩ := g1
            obtain ⟨r1, r2⟩ := hR.marked hget q1 g2
            refine ⟨.slice (some ⟨b1, c + o, none⟩) (n + 1) cap, _, ?_, r1, r2, .slice q1 q2 q3 (.inr rfl)⟩
            simp [convert, run_und e1, run_und e2, markStringish, World.shape?, g2]
          · simp at hmw
        · simp at hT
      · simp at h
    · simp at h
  · simp at h

/-! ### All of them -/

theorem eff_sound {ρ ρ' : Operand → Value} {callF : CallF} (hρ : ∀ x, VRel φ (ρ x) (ρ' x)) (o : Oper) (hR : Rel φ H w) (hf : H.next < H'.next → φ H.next = none) {v : Value}
    (hc : ∀ c f, o.op = .call c → c.callee ≠ .value f) (h : effOp callF P o.op ρ H = some (v, H')) :
    ∃ v' w' φ', ((execOp ρ' o).run P w = .ok (.value v') w' ∨ ((execOp ρ' o).run P w = .ok .skip w' ∧ v' = undef)) ∧ Rel φ' H' w' ∧ Step φ H w φ' H' w' ∧ VRel φ' v v' := by
  obtain ⟨dst, op, ty, pos, after, guard⟩ := o
  cases op <;> simp only [effOp] at h
  case store t x y =>
    obtain ⟨w', h1, h2, h3, rfl⟩ := store_sound hR h (hρ x) (hρ y)
    exact ⟨undef, w', φ, .inr ⟨by simp [execOp, h1], rfl⟩, h2, h3, .undef _⟩
  case mapUpdate t m k y =>
    obtain ⟨w', h1, h2, h3, rfl⟩ := update_sound hR h (hρ m) (hρ k) (hρ y)
    exact ⟨undef, w', φ, .inr ⟨by simp [execOp, h1], rfl⟩, h2, h3, .undef _⟩
  case insert t m k y =>
    obtain ⟨w', h1, h2, h3, rfl⟩ := update_sound hR h (hρ m) (hρ k) (hρ y)
    exact ⟨undef, w', φ, .inr ⟨by simp [execOp, h1], rfl⟩, h2, h3, .undef _⟩
  case convert s d x =>
    obtain ⟨v', w', h1, h2, h3, h4⟩ := reslice_sound hR h (hρ x)
    exact ⟨v', w', φ, .inl (by simp [execOp, h1]), h2, h3, h4⟩
  case call c =>
    obtain ⟨callee, args, argTypes⟩ := c
    unfold effCall at h
    simp only at h
    have hr := vals_rel hρ args
    split at h
    · rename_i f
      exact absurd rfl (hc _ f rfl)
    · unfold appendCall at h
      split at h
      · rename_i t ts s x hts hvs
        rw [hvs] at hr
        have ht : argTypes[0]? = some t := by rw [← Array.getElem?_toList, hts]; rfl
        obtain ⟨s', hs', hsv⟩ := hr.get (i := 0) rfl
        obtain ⟨x', hx', hxv⟩ := hr.get (i := 1) rfl
        rw [Array.getElem?_toList] at hs' hx'
        split at h
        · have hu : argTypes[1]? = none := by rw [← Array.getElem?_toList, hts]; rfl
          obtain ⟨v', w', φ', h1, h2, h3, h4⟩ := append_sound hR hf h hsv hxv argTypes (args.map ρ') ty ht (.inl hu) hs' hx'
          exact ⟨v', w', φ', .inl (by simp [execOp, resolve, invoke, builtin, h1]), h2, h3, h4⟩
        · rename_i u us
          have hu : argTypes[1]? = some u := by rw [← Array.getElem?_toList, hts]; rfl
          split at h
          · rename_i hk
            obtain ⟨d, h0, d1, _⟩ := kind_of (P := P) (t := u) hk (by decide)
            have d1 := d1 rfl
            subst d1
            obtain ⟨v', w', φ', h1, h2, h3, h4⟩ := append_sound hR hf h hsv hxv argTypes (args.map ρ') ty ht (.inr ⟨u, _, hu, h0, by simp⟩) hs' hx'
            exact ⟨v', w', φ', .inl (by simp [execOp, resolve, invoke, builtin, h1]), h2, h3, h4⟩
          · rename_i hk
            obtain ⟨d, h0, _, d1, _⟩ := kind_of (P := P) (t := u) hk (by decide)
            obtain ⟨e, rfl⟩ := d1 rfl
            obtain ⟨v', w', φ', h1, h2, h3, h4⟩ := append_sound hR hf h hsv hxv argTypes (args.map ρ') ty ht (.inr ⟨u, _, hu, h0, by simp⟩) hs' hx'
            exact ⟨v', w', φ', .inl (by simp [execOp, resolve, invoke, builtin, h1]), h2, h3, h4⟩
          · simp at h
      · simp at h
    · unfold copyCall at h
      split at h
      · rename_i t ts s x hts hvs
        rw [hvs] at hr
        have ht : argTypes[0]? = some t := by rw [← Array.getElem?_toList, hts]; rfl
        obtain ⟨s', hs', hsv⟩ := hr.get (i := 0) rfl
        obtain ⟨x', hx', hxv⟩ := hr.get (i := 1) rfl
        rw [Array.getElem?_toList] at hs' hx'
        obtain ⟨v', w', h1, h2, h3, h4⟩ := copy_sound hR h hsv hxv argTypes (args.map ρ') ty ht hs' hx'
        exact ⟨v', w', φ, .inl (by simp [execOp, resolve, invoke, builtin, h1]), h2, h3, h4⟩
      · simp at h
    · simp at h
  all_goals simp at h

end Go.Abs

namespace Go.Abs

variable {P : Program}

/-- The package-level variables stand for themselves. -/
def GlobOk (P : Program) (φ : Phi) : Prop := ∀ g, g ≤ P.globals.size → ∃ l, φ g = some (g, 0, l)

structure Good (P : Program) (φ : Phi) (H : AHeap) (w : World) : Prop where
  rel : Rel φ H w
  glob : GlobOk P φ
  low : P.globals.size < H.next

theorem Good.step {φ φ' : Phi} {H H' : AHeap} {w w' : World} (h : Good P φ H w) (hR : Rel φ' H' w') (hs : Step φ H w φ' H' w') : Good P φ' H' w' :=
  ⟨hR, fun g hg => by rw [hs.ext g (.inl (Nat.lt_of_le_of_lt hg h.low))]; exact h.glob g hg, Nat.lt_of_lt_of_le h.low hs.next⟩

/-- A deferred call. -/
def DRel (φ : Phi) (x : FuncId × List Value) (d : Deferred) : Prop :=
  ∃ cap dargs, d = { target := .fn (.func x.1) cap, args := dargs } ∧ LRel φ x.2 (dargs ++ cap).toList

theorem DRel.mono {φ φ' : Phi} (hle : Le φ φ') {x : FuncId × List Value} {d : Deferred} (h : DRel φ x d) : DRel φ' x d := by
  obtain ⟨cap, dargs, h1, h2⟩ := h
  exact ⟨cap, dargs, h1, h2.mono hle⟩

inductive DsRel (φ : Phi) : List (FuncId × List Value) → List Deferred → Prop
  | nil : DsRel φ [] []
  | cons {x d xs ds} (h : DRel φ x d) (hs : DsRel φ xs ds) : DsRel φ (x :: xs) (d :: ds)

theorem DsRel.mono {φ φ' : Phi} (hle : Le φ φ') {xs : List (FuncId × List Value)} {ds : List Deferred} (h : DsRel φ xs ds) : DsRel φ' xs ds := by
  induction h with
  | nil => exact .nil
  | cons h _ ih => exact .cons (h.mono hle) ih

structure ActRel (φ : Phi) (a : AAct) (A : Act) : Prop where
  len : A.tmps.size = a.tmps.length
  tmps : ∀ i, VRel φ (getT a.tmps i) (A.tmps.getD i Go.undef)
  defers : DsRel φ a.defers A.defers

theorem ActRel.mono {φ φ' : Phi} (hle : Le φ φ') {a : AAct} {A : Act} (h : ActRel φ a A) : ActRel φ' a A :=
  ⟨h.len, fun i => (h.tmps i).mono hle, h.defers.mono hle⟩

theorem eval_rel {φ : Phi} {a : AAct} {A : Act} (hg : GlobOk P φ) (h : ActRel φ a A) (x : Operand) : VRel φ (a.eval P x) (A.eval x) := by
  cases x with
  | tmp t => exact h.tmps t
  | const v =>
    show VRel φ (constA v) v
    unfold constA
    split
    · rename_i hv; exact zero_rel hv
    · exact .undef _
  | global g =>
    show VRel φ (globalA P g) (.pointer (some ⟨g, 0, none⟩))
    unfold globalA
    split
    · rename_i hb
      rw [Nat_blt_eq, decide_eq_true_iff] at hb
      obtain ⟨l, hl⟩ := hg g (Nat.le_of_lt hb)
      have := VRel.ptr (φ := φ) (o := 0) hl
      exact this
    · exact .undef _
  | func f =>
    exact .func rfl rfl (fun i x y hx => by simp at hx) (fun i x y hx => by simp at hx)

theorem put_rel {φ : Phi} {a : AAct} {A : Act} (h : ActRel φ a A) (dst : Option Tmp) {v v' : Value} (hv : VRel φ v v') : ActRel φ (a.put dst v) (A.put dst v') := by
  cases dst with
  | none => exact h
  | some d =>
    refine ⟨by simp [AAct.put, Act.put, setT_eq, h.len], fun i => ?_, h.defers⟩
    simp only [AAct.put, Act.put]
    rw [getT_eq, setT_eq]
    by_cases hi : d = i
    · subst hi
      by_cases hd : d < a.tmps.length
      · have e1 : (a.tmps.set d v).getD d undef = v := by simp [List.getD, hd]
        have e2 : (A.tmps.setIfInBounds d v').getD d Go.undef = v' := by
          have : d < A.tmps.size := by rw [h.len]; exact hd
          simp [Array.getD, this]
        rw [e1, e2]; exact hv
      · have e1 : (a.tmps.set d v).getD d undef = undef := by simp [List.getD, hd]
        rw [e1]; exact .undef _
    · have e1 : (a.tmps.set d v).getD i undef = getT a.tmps i := by
        rw [getT_eq]; simp [List.getD, hi]
      have e2 : (A.tmps.setIfInBounds d v').getD i Go.undef = A.tmps.getD i Go.undef := by
        simp [hi]
      rw [e1, e2]; exact h.tmps i

theorem defer_rel {φ : Phi} {a : AAct} {A : Act} (h : ActRel φ a A) {x : FuncId × List Value} {d : Deferred} (hd : DRel φ x d) : ActRel φ ⟨a.tmps, x :: a.defers⟩ { A with defers := d :: A.defers } :=
  ⟨h.len, h.tmps, .cons hd h.defers⟩

theorem bool_at {φ : Phi} {a : AAct} {A : Act} (h : ActRel φ a A) {d : Nat} {b : Bool} (hb : getT a.tmps d = .bool b) : A.tmps[d]? = some (.bool b) := by
  have h1 := h.tmps d
  rw [hb] at h1
  have h1 := bool_inv h1
  have hd : d < a.tmps.length := by
    rcases Nat.lt_or_ge d a.tmps.length with h | h
    · exact h
    · rw [getT_eq, List.getD, List.getElem?_eq_none h] at hb; simp [undef] at hb
  have hd' : d < A.tmps.size := by rw [‹ActRel φ a A›.len]; exact hd
  rw [Array.getElem?_eq_getElem hd']
  simp [Array.getD, hd'] at h1
  rw [h1]

theorem wanted_rel {φ : Phi} {ops : Array Oper} {a : AAct} {A : Act} (h : ActRel φ a A) (o : Oper) {b : Bool} (hw : wantedA ops a.tmps o.guard = some b) : Region.wanted o (yielded ops A.tmps) = b := by
  unfold wantedA at hw
  unfold Region.wanted
  split at hw
  · rename_i hg
    rw [hg]; simp only [Option.some.injEq] at hw; simp [← hw]
  · rename_i j want hg
    rw [hg]
    split at hw
    · rename_i o' ho
      rw [nth_eq, Array.getElem?_toList] at ho
      split at hw
      · rename_i d hd
        split at hw
        · rename_i x hx
          simp only [Option.some.injEq] at hw
          have := bool_at h hx
          simp only [yielded, ho, Option.bind_some, hd, this]
          rw [← hw]
          cases x <;> cases want <;> rfl
        · simp at hw
      · simp at hw
    · simp at hw

/-! ## Calls -/

/-- What a call comes to. -/
def Post (φ : Phi) (H : AHeap) (w : World) (v : Value) (H' : AHeap) : Ending → World → Prop
  | .returned v', w' => ∃ φ', VRel φ' v v' ∧ Rel φ' H' w' ∧ Step φ H w φ' H' w'
  | _, _ => False

structure CallOk (P : Program) (callF : CallF) : Prop where
  calls : ∀ g args H v H', callF g args H = some (v, H') → ∀ φ w (cargs : Array Value), Good P φ H w → Free φ H.next H'.next → LRel φ args cargs.toList → Calls P g cargs w (Post φ H w v H')
  enters : ∀ g args H r, callF g args H = some r → ∃ fn, P.funcs[g]? = some fn ∧ fn.body.isSome = true ∧ fn.name ≠ "runtime.NumGoroutine"

theorem callFunc_run {g : FuncId} {fn : Func} (h1 : P.funcs[g]? = some fn) (h2 : fn.body.isSome = true) (h3 : fn.name ≠ "runtime.NumGoroutine") (args : Array Value) (w : World) :
    (callFunc g args).run P w = .ok (.enter g args) w := by
  have hb : fn.body ≠ none := by intro h; rw [h] at h2; simp at h2
  simp [callFunc, h1, h3, hb]

/-- How one operation came about, by its class. -/
inductive Came (callF : CallF) (P : Program) (op : Op) (dst : Option Tmp) (a : AAct) (H : AHeap) : AAct → AHeap → Prop
  | pure {v : Value} (hc : cls P op = .P) (h : pureOp P op (a.eval P) = some v) : Came callF P op dst a H (a.put dst v) H
  | read {v : Value} (hc : cls P op = .R) (h : readOp P op (a.eval P) H = some v) : Came callF P op dst a H (a.put dst v) H
  | alloc {B : Blk} {val : Nat → Value} (hc : cls P op = .A) (h : allocOp P op (a.eval P) = some (B, val)) : Came callF P op dst a H (a.put dst (val H.next)) (H.push B)
  | eff {v : Value} {H' : AHeap} (hc : cls P op = .E) (hd : ∀ c, op ≠ .defer c) (h : effOp callF P op (a.eval P) H = some (v, H')) : Came callF P op dst a H (a.put dst v) H'
  | defer {c : Call} {d : FuncId × List Value} (hc : cls P op = .E) (ho : op = .defer c) (h : deferA P a c = some d) : Came callF P op dst a H (AAct.put ⟨a.tmps, d :: a.defers⟩ dst undef) H

theorem putV_inv {a a' : AAct} {dst : Option Tmp} {H H' : AHeap} {o : Option Value} (h : putV a dst H o = some (a', H')) : ∃ v, o = some v ∧ a' = a.put dst v ∧ H' = H := by
  unfold putV at h
  split at h
  · simp only [Option.some.injEq, Prod.mk.injEq] at h; exact ⟨_, rfl, h.1.symm, h.2.symm⟩
  · simp at h
theorem putB_inv {a a' : AAct} {dst : Option Tmp} {H H' : AHeap} {o : Option (Blk × (Nat → Value))} (h : putB a dst H o = some (a', H')) : ∃ B v, o = some (B, v) ∧ a' = a.put dst (v H.next) ∧ H' = H.push B := by
  unfold putB at h
  split at h
  · simp only [Option.some.injEq, Prod.mk.injEq] at h; exact ⟨_, _, rfl, h.1.symm, h.2.symm⟩
  · simp at h
theorem putE_inv {a a' : AAct} {dst : Option Tmp} {H' : AHeap} {o : Option (Value × AHeap)} (h : putE a dst o = some (a', H')) : ∃ v, o = some (v, H') ∧ a' = a.put dst v := by
  unfold putE at h
  split at h
  · simp only [Option.some.injEq, Prod.mk.injEq] at h; obtain ⟨h1, rfl⟩ := h; exact ⟨_, rfl, h1.symm⟩
  · simp at h

theorem stepOp_came {callF : CallF} {op : Op} {dst : Option Tmp} {a a' : AAct} {H H' : AHeap} (h : stepOp callF P op dst a H = some (a', H')) : Came callF P op dst a H a' H' := by
  cases op <;> simp only [stepOp] at h
  case move x => simp only [Option.some.injEq, Prod.mk.injEq] at h; obtain ⟨rfl, rfl⟩ := h; exact .pure rfl rfl
  case assign x => simp only [Option.some.injEq, Prod.mk.injEq] at h; obtain ⟨rfl, rfl⟩ := h; exact .pure rfl rfl
  case makeFunc => simp only [Option.some.injEq, Prod.mk.injEq] at h; obtain ⟨rfl, rfl⟩ := h; exact .pure rfl rfl
  case defer c =>
    unfold putD at h
    split at h
    · rename_i d hd
      simp only [Option.some.injEq, Prod.mk.injEq] at h; obtain ⟨rfl, rfl⟩ := h
      exact .defer rfl rfl hd
    · simp at h
  case convert s d x =>
    unfold stepConv at h
    split at h
    · rename_i hk; obtain ⟨v, h1, rfl, rfl⟩ := putV_inv h; exact .pure hk h1
    · rename_i hk; obtain ⟨v, h1, rfl, rfl⟩ := putV_inv h; exact .read hk h1
    · rename_i hk; obtain ⟨B, v, h1, rfl, rfl⟩ := putB_inv h; exact .alloc hk h1
    · rename_i hk; obtain ⟨v, h1, rfl⟩ := putE_inv h; exact .eff hk (by simp) h1
  case slice t x lo hi mx =>
    unfold stepSlice at h
    split at h
    · rename_i hk; obtain ⟨v, h1, rfl, rfl⟩ := putV_inv h; exact .read hk h1
    · rename_i hk
      obtain ⟨v, h1, rfl, rfl⟩ := putV_inv h
      refine .pure ?_ h1
      show sliceCls (descKind P t) = .P
      unfold sliceCls at hk ⊢
      split
      · rename_i hk9; rw [hk9] at hk; exact absurd rfl hk
      · rfl
  case call c =>
    unfold stepCall at h
    split at h
    · rename_i hk; obtain ⟨v, h1, rfl, rfl⟩ := putV_inv h; exact .pure hk h1
    · rename_i hk; obtain ⟨v, h1, rfl, rfl⟩ := putV_inv h; exact .read hk h1
    · rename_i hk1 hk2
      obtain ⟨v, h1, rfl⟩ := putE_inv h
      refine .eff ?_ (by simp) h1
      show callCls P c = .E
      have : ∀ k : Cls, k = callCls P c → k ≠ .P → k ≠ .R → k = .E := by
        intro k hk n1 n2
        cases k with
        | P => exact absurd rfl n1
        | R => exact absurd rfl n2
        | E => rfl
        | A =>
          unfold callCls at hk
          split at hk
          · split at hk
            · unfold lenCls at hk; split at hk <;> simp at hk
            · simp at hk
          all_goals simp at hk
      exact this _ rfl hk1 hk2
  all_goals first
    | (obtain ⟨v, h1, rfl, rfl⟩ := putV_inv h; first | exact .pure rfl h1 | exact .read rfl h1)
    | (obtain ⟨B, v, h1, rfl, rfl⟩ := putB_inv h; exact .alloc rfl h1)
    | (obtain ⟨v, h1, rfl⟩ := putE_inv h; exact .eff rfl (by simp) h1)
    | (simp at h; done)

/-- A call of a Go function, as an operation. -/
theorem callee_run {φ : Phi} {v v' : Value} {args : List Value} {cargs : Array Value} {g : FuncId} {as : List Value} (h : calleeA v args = some (g, as)) (hv : VRel φ v v') (ha : LRel φ args cargs.toList) :
    ∃ first cap, v' = .func (.func g) first cap ∧ LRel φ as (first ++ (cargs ++ cap)).toList := by
  unfold calleeA at h
  split at h
  · rename_i g' first cap
    simp only [Option.some.injEq, Prod.mk.injEq] at h
    obtain ⟨rfl, rfl⟩ := h
    cases hv with
    | func hf hc h1 h2 =>
      refine ⟨_, _, rfl, ?_⟩
      rw [Array.toList_append, Array.toList_append]
      exact LRel.append ⟨hf, h1⟩ (ha.append ⟨hc, h2⟩)
  · simp at h

end Go.Abs

namespace Go.Abs

variable {P : Program}

/-- What must hold behind. -/
def Then (P : Program) (φ : Phi) (H : AHeap) (w : World) (a' : AAct) (H' : AHeap) (K : Act → World → Prop) : Prop :=
  ∀ φ' A' w', Good P φ' H' w' → Step φ H w φ' H' w' → ActRel φ' a' A' → K A' w'

/-- What must hold behind an operation that gives a value. -/
def ThenV (P : Program) (φ : Phi) (H : AHeap) (w : World) (v : Value) (H' : AHeap) (K : Value → World → Prop) : Prop :=
  ∀ φ' v' w', Good P φ' H' w' → Step φ H w φ' H' w' → VRel φ' v v' → K v' w'

/-- A call of a Go function. -/
theorem call_upon {callF : CallF} (hcall : CallOk P callF) {φ : Phi} {H H' : AHeap} {w : World} {A : Act} {ρ : Operand → Value} (hρ : ∀ x, VRel φ (ρ x) (A.eval x)) (hG : Good P φ H w) (hfree : Free φ H.next H'.next)
    (o : Oper) {c : Call} {f : Operand} (ho : o.op = .call c) (hf : c.callee = .value f) {v : Value} (h : effOp callF P o.op ρ H = some (v, H')) (K : Act → World → Prop) (Q : Exit → Act → World → Prop)
    (hK : ThenV P φ H w v H' fun v' w' => K (A.put o.dst v') w') : o.wp P A w K Q := by
  rw [ho] at h
  simp only [effOp, effCall, hf] at h
  unfold callTo at h
  split at h
  · rename_i g args hcal
    obtain ⟨first, cap, e1, e2⟩ := callee_run hcal (hρ f) (vals_rel hρ c.args)
    obtain ⟨fn, f1, f2, f3⟩ := hcall.enters g args H _ h
    have hrun : (execOp A.eval o).run P w = .ok (.enter g (first ++ (c.args.map A.eval ++ cap))) w := by
      unfold execOp
      rw [ho]
      simp only [resolve, hf, e1, Deferred.ofValue, Sem.run_bind, Sem.run_pure, Result.andThen_ok, invoke]
      rw [callFunc_run f1 f2 f3, Array.append_assoc]
    unfold Oper.wp
    rw [hrun, Oper.upon_enter]
    refine (hcall.calls g args H v H' h φ w _ hG hfree e2).mono fun e w' he => ?_
    cases e with
    | returned v' =>
      obtain ⟨φ', h1, h2, h3⟩ := he
      exact hK φ' v' w' (hG.step h2 h3) h3 h1
    | panicked => exact he.elim
    | outgrown => exact he.elim
  · simp at h

/-- All slots but one are as they were. -/
def Kept (A A' : Act) (dst : Option Tmp) : Prop := ∀ d, dst ≠ some d → A'.tmps.getD d Go.undef = A.tmps.getD d Go.undef

theorem kept_put (A : Act) (dst : Option Tmp) (v : Value) : Kept A (A.put dst v) dst := by
  intro d hd
  cases dst with
  | none => rfl
  | some e =>
    have : e ≠ d := fun h => hd (by rw [h])
    simp [Act.put, this]

/-- One operation that came about; the other slots are as they were. -/
theorem came_kept (hz : ZerosFlat P) {callF : CallF} (hcall : CallOk P callF) {o : Oper} {a a' : AAct} {H H' : AHeap} (hc : Came callF P o.op o.dst a H a' H')
    {φ : Phi} {A : Act} {w : World} (hG : Good P φ H w) (hA : ActRel φ a A) (hfree : Free φ H.next H'.next) (K : Act → World → Prop) (Q : Exit → Act → World → Prop)
    (hK : ∀ φ' A' w', Good P φ' H' w' → Step φ H w φ' H' w' → ActRel φ' a' A' → Kept A A' o.dst → K A' w') : o.wp P A w K Q := by
  have hρ := eval_rel hG.glob hA
  cases hc with
  | pure hc h =>
    obtain ⟨v', hv, hrun⟩ := pure_sound hz hρ o h
    unfold Oper.wp
    rw [hrun w, Oper.upon_value]
    exact hK φ _ w hG (.refl _ _ _) (put_rel hA _ hv) (kept_put _ _ _)
  | read hc h =>
    obtain ⟨v', hv, hrun⟩ := read_sound hz hρ o hc hG.rel h
    unfold Oper.wp
    rw [hrun, Oper.upon_value]
    exact hK φ _ w hG (.refl _ _ _) (put_rel hA _ hv) (kept_put _ _ _)
  | alloc hc h =>
    obtain ⟨v', w', hrun, hro, hg, l, hm⟩ := alloc_sound hz hρ o hc h w
    unfold Oper.wp
    rw [hrun, Oper.upon_value]
    have hf : φ H.next = none := hfree _ (Nat.le_refl _) (by rw [AHeap.next_push]; omega)
    obtain ⟨hB, hv⟩ := hm _ H.next (le_withP _ hf) (withP_same _ _ _)
    obtain ⟨r1, r2⟩ := hG.rel.push hf hro hg hB
    exact hK _ _ w' (hG.step r1 r2) r2 (put_rel (hA.mono (le_withP _ hf)) _ hv) (kept_put _ _ _)
  | eff hc hd h =>
    by_cases hval : ∃ c f, o.op = .call c ∧ c.callee = .value f
    · obtain ⟨c, f, ho, hf⟩ := hval
      refine call_upon hcall hρ hG hfree o ho hf h K Q fun φ' v' w' h1 h2 h3 => ?_
      exact hK φ' _ w' h1 h2 (put_rel (hA.mono (h2.le hfree)) _ h3) (kept_put _ _ _)
    · obtain ⟨v', w', φ', hrun, h1, h2, h3⟩ := eff_sound hρ o hG.rel (fun hn => hfree _ (Nat.le_refl _) hn) (fun c f ho hcf => hval ⟨c, f, ho, hcf⟩) h
      have hact := put_rel (hA.mono (h2.le hfree)) o.dst h3
      unfold Oper.wp
      rcases hrun with hrun | ⟨hrun, rfl⟩
      · rw [hrun, Oper.upon_value]
        exact hK φ' _ w' (hG.step h1 h2) h2 hact (kept_put _ _ _)
      · rw [hrun, Oper.upon_skip]
        exact hK φ' _ w' (hG.step h1 h2) h2 hact (kept_put _ _ _)
  | defer hc ho h =>
    unfold deferA at h
    split at h
    · rename_i c d cal f hf
      obtain ⟨first, cap, e1, e2⟩ := callee_run h (hρ f) (vals_rel hρ c.args)
      have hrun : (execOp A.eval o).run P w = .ok (.defer { target := .fn (.func d.1) cap, args := first ++ c.args.map A.eval }) w := by
        unfold execOp
        rw [ho]
        simp [resolve, hf, e1, Deferred.ofValue]
      unfold Oper.wp
      rw [hrun, Oper.upon_defer]
      refine hK φ _ w hG (.refl _ _ _) (put_rel (defer_rel hA ⟨cap, _, rfl, ?_⟩) _ (.undef _)) (kept_put { A with defers := _ } _ _)
      rw [Array.append_assoc]; exact e2
    · simp at h

/-- One operation that came about. -/
theorem came_sound (hz : ZerosFlat P) {callF : CallF} (hcall : CallOk P callF) {o : Oper} {a a' : AAct} {H H' : AHeap} (hc : Came callF P o.op o.dst a H a' H')
    {φ : Phi} {A : Act} {w : World} (hG : Good P φ H w) (hA : ActRel φ a A) (hfree : Free φ H.next H'.next) (K : Act → World → Prop) (Q : Exit → Act → World → Prop)
    (hK : Then P φ H w a' H' K) : o.wp P A w K Q :=
  came_kept hz hcall hc hG hA hfree K Q fun φ' A' w' h1 h2 h3 _ => hK φ' A' w' h1 h2 h3

/-- The whole step, wanted or not, as the order of a region takes it. -/
theorem opStep_sound (hz : ZerosFlat P) {callF : CallF} (hcall : CallOk P callF) {ops : Array Oper} {i : Nat} {o : Oper} (ho : ops[i]? = some o) {a : AAct} {H : AHeap} {φ : Phi} {A : Act} {w : World}
    (hG : Good P φ H w) (hA : ActRel φ a A) (K : Act → World → Prop) (Q : Exit → Act → World → Prop) {b : Bool} (hw : wantedA ops a.tmps o.guard = some b)
    (hno : b = false → Then P φ H w (a.put o.dst undef) H K)
    (hyes : b = true → ∃ a' H', stepOp callF P o.op o.dst a H = some (a', H') ∧ Free φ H.next H'.next ∧ Then P φ H w a' H' K) : wpOp P ops Q i K A w := by
  unfold wpOp
  simp only [ho]
  rw [wanted_rel hA o hw]
  cases b with
  | false =>
    simp only [Bool.false_eq_true, if_false]
    exact hno rfl φ _ w hG (.refl _ _ _) (put_rel hA _ (.undef _))
  | true =>
    simp only [if_true]
    obtain ⟨a', H', h1, h2, h3⟩ := hyes rfl
    exact .inl (came_sound hz hcall (stepOp_came h1) hG hA h2 K Q h3)

theorem runList_cons {callF : CallF} {ops : Array Oper} {o : Oper} {os : List Oper} {a : AAct} {H : AHeap} :
    runList callF P ops (o :: os) a H = stepOr a o.dst H (wantedA ops a.tmps o.guard) (stepOp callF P o.op o.dst a H) (runList callF P ops os) := rfl
theorem runList_nil {callF : CallF} {ops : Array Oper} {a : AAct} {H : AHeap} : runList callF P ops [] a H = some (a, H) := rfl

/-- An abstract step never makes the heap's next number smaller. -/
def Grows (callF : CallF) : Prop := ∀ g args H v H', callF g args H = some (v, H') → H.next ≤ H'.next

theorem came_next {callF : CallF} (hg : Grows callF) {op : Op} {dst : Option Tmp} {a a' : AAct} {H H' : AHeap} (hc : Came callF P op dst a H a' H') : H.next ≤ H'.next := by
  cases hc with
  | pure => exact Nat.le_refl _
  | read => exact Nat.le_refl _
  | alloc => rw [AHeap.next_push]; omega
  | defer => exact Nat.le_refl _
  | eff hc hd h =>
    have store_next : ∀ {H H' : AHeap} {a : Addr} {vs : List Value}, H.store a vs = some H' → H'.next = H.next := by
      intro H H' a vs h
      obtain ⟨_, _, _, _, _, rfl⟩ := store_inv h
      rfl
    have copyTo_next : ∀ {b : Option Addr} {k : Nat} {l : List Value} {H H' : AHeap} {v : Value}, copyTo b k l H = some (v, H') → H.next ≤ H'.next := by
      intro b k l H H' v h
      unfold copyTo at h
      split at h
      · split at h
        · rename_i hs
          simp only [Option.some.injEq, Prod.mk.injEq] at h
          rw [← h.2, store_next hs]; exact Nat.le_refl _
        · simp at h
      · split at h
        · simp only [Option.some.injEq, Prod.mk.injEq] at h; rw [h.2]; exact Nat.le_refl _
        · simp at h
    have append_next : ∀ {r : Option (Nat × Nat)} {s x v : Value} {H H' : AHeap}, appendA r s x H = some (v, H') → H.next ≤ H'.next := by
      intro r s x v H H' h
      unfold appendA at h
      split at h
      · split at h
        · split at h
          · unfold appendTo at h
            split at h
            · split at h
              · simp only [Option.some.injEq, Prod.mk.injEq] at h; rw [h.2]; exact Nat.le_refl _
              · split at h
                · split at h
                  · simp only [Option.some.injEq, Prod.mk.injEq] at h; rw [← h.2, AHeap.next_push]; omega
                  · simp at h
                · split at h
                  · simp only [Option.some.injEq, Prod.mk.injEq] at h; rw [← h.2, AHeap.next_push, AHeap.next_set]; omega
                  · simp at h
            · simp at h
          · simp at h
        · simp at h
      · simp at h
    have update_next : ∀ {t : Option (TypeId × TypeId)} {m k x v : Value} {H H' : AHeap}, updateA P t m k x H = some (v, H') → H.next ≤ H'.next := by
      intro t m k x v H H' h
      unfold updateA at h
      split at h
      · split at h
        · split at h
          · simp only [Option.some.injEq, Prod.mk.injEq] at h; rw [← h.2, AHeap.next_set]; exact Nat.le_refl _
          · simp at h
        · simp at h
      · simp at h
    cases op <;> simp only [effOp] at h <;> first
      | (simp at h; done)
      | exact update_next h
      | skip
    · unfold storeA at h
      split at h
      · split at h
        · split at h
          · split at h
            · rename_i hs
              simp only [Option.some.injEq, Prod.mk.injEq] at h
              rw [← h.2, store_next hs]; exact Nat.le_refl _
            · simp at h
          · simp at h
        · simp at h
      · simp at h
    · unfold reslice at h
      split at h
      · split at h
        · split at h
          · simp only [Option.some.injEq, Prod.mk.injEq] at h; rw [h.2]; exact Nat.le_refl _
          · simp at h
        · simp at h
      · simp at h
    · unfold effCall at h
      split at h
      · unfold callTo at h
        split at h
        · exact hg _ _ _ _ _ h
        · simp at h
      · unfold appendCall at h
        split at h
        · split at h
          · exact append_next h
          · split at h
            · exact append_next h
            · exact append_next h
            · simp at h
        · simp at h
      · unfold copyCall at h
        split at h
        · unfold copyA at h
          split at h
          · split at h
            · split at h
              · simp only [Option.some.injEq, Prod.mk.injEq] at h; rw [h.2]; exact Nat.le_refl _
              · split at h
                · exact copyTo_next h
                · simp at h
              · split at h
                · exact copyTo_next h
                · simp at h
              · simp at h
            · simp at h
          · simp at h
        · simp at h
      · simp at h

theorem runList_next {callF : CallF} (hg : Grows callF) {ops : Array Oper} : ∀ (l : List Oper) (a a' : AAct) (H H' : AHeap), runList callF P ops l a H = some (a', H') → H.next ≤ H'.next
  | [], a, a', H, H', h => by rw [runList_nil] at h; simp only [Option.some.injEq, Prod.mk.injEq] at h; rw [h.2]; exact Nat.le_refl _
  | o :: os, a, a', H, H', h => by
    rw [runList_cons] at h
    unfold stepOr at h
    split at h
    · split at h
      · rename_i a1 H1 hs
        exact Nat.le_trans (came_next hg (stepOp_came hs)) (runList_next hg os _ _ _ _ h)
      · simp at h
    · exact runList_next hg os _ _ _ _ h
    · simp at h

/-- A region in the order of the text. -/
theorem runList_sound (hz : ZerosFlat P) {callF : CallF} (hcall : CallOk P callF) (hg : Grows callF) {ops : Array Oper} (Q : Exit → Act → World → Prop) : ∀ (l : List Oper) (k : Nat) (a a' : AAct) (H H' : AHeap), (∀ j, l[j]? = ops[k + j]?) → runList callF P ops l a H = some (a', H') →
    ∀ (φ : Phi) (A : Act) (w : World), Good P φ H w → ActRel φ a A → Free φ H.next H'.next → Then P φ H w a' H' (fun A' w' => Q .normal A' w') → wpOps P ops Q (List.range' k l.length) A w
  | [], k, a, a', H, H', _, h, φ, A, w, hG, hA, hf, hK => by
    rw [runList_nil] at h
    simp only [Option.some.injEq, Prod.mk.injEq] at h
    obtain ⟨rfl, rfl⟩ := h
    exact hK φ A w hG (.refl _ _ _) hA
  | o :: os, k, a, a', H, H', hl, h, φ, A, w, hG, hA, hf, hK => by
    have ho : ops[k]? = some o := by have := hl 0; simpa using this.symm
    have hl' : ∀ j, os[j]? = ops[k + 1 + j]? := fun j => by have := hl (j + 1); rw [show k + 1 + j = k + (j + 1) by omega]; simpa using this
    simp only [List.length_cons, List.range'_succ]
    rw [wpOps_cons]
    rw [runList_cons] at h
    unfold stepOr at h
    split at h
    · rename_i hw
      split at h
      · rename_i a1 H1 hs
        have n1 := came_next hg (stepOp_came hs)
        have n2 := runList_next hg os _ _ _ _ h
        refine opStep_sound hz hcall ho hG hA _ Q hw (fun hb => by simp at hb) fun _ => ⟨a1, H1, hs, hf.mono (Nat.le_refl _) n2, fun φ1 A1 w1 hG1 hs1 hA1 => ?_⟩
        exact runList_sound hz hcall hg Q os (k + 1) a1 a' H1 H' hl' h φ1 A1 w1 hG1 hA1 (hs1.free hf) fun φ2 A2 w2 hG2 hs2 hA2 => hK φ2 A2 w2 hG2 (hs1.trans hs2) hA2
      · simp at h
    · rename_i hw
      refine opStep_sound hz hcall ho hG hA _ Q hw (fun _ φ1 A1 w1 hG1 hs1 hA1 => ?_) (fun hb => by simp at hb)
      exact runList_sound hz hcall hg Q os (k + 1) _ a' H H' hl' h φ1 A1 w1 hG1 hA1 (hs1.free hf) fun φ2 A2 w2 hG2 hs2 hA2 => hK φ2 A2 w2 hG2 (hs1.trans hs2) hA2
    · simp at h

end Go.Abs

namespace Go.Abs

variable {P : Program}

/-! ## What the model's operation looks at -/

theorem vals_congr {ρ ρ' : Operand → Value} {l : List Operand} (h : ∀ x ∈ l, ρ x = ρ' x) : vals ρ l = vals ρ' l := by
  rw [vals_eq, vals_eq]; exact List.map_congr_left h

theorem parts_congr {ρ ρ' : Operand → Value} : ∀ {l : List (Nat × Operand)}, (∀ x ∈ l, ρ x.2 = ρ' x.2) → partsA ρ l = partsA ρ' l
  | [], _ => rfl
  | (i, x) :: l, h => by
    simp only [partsA]
    rw [h (i, x) (by simp), parts_congr (fun y hy => h y (by simp [hy]))]

theorem opt_congr {ρ ρ' : Operand → Value} {x : Option Operand} (h : ∀ y ∈ x.toList, ρ y = ρ' y) : optVal ρ x = optVal ρ' x := by
  cases x with
  | none => rfl
  | some x => simp only [optVal]; rw [h x (by simp)]

theorem call_ops {ρ ρ' : Operand → Value} {c : Call} (h : ∀ x ∈ c.operands.toList, ρ x = ρ' x) : vals ρ c.args.toList = vals ρ' c.args.toList ∧ ∀ f, c.callee = .value f → ρ f = ρ' f := by
  refine ⟨vals_congr fun x hx => h x ?_, fun f hf => h f ?_⟩
  · simp only [Call.operands, Array.toList_append, List.mem_append]
    exact .inr hx
  · simp [Call.operands, hf]

theorem pure_congr {ρ ρ' : Operand → Value} (o : Op) (h : ∀ x ∈ o.operands.toList, ρ x = ρ' x) : pureOp P o ρ = pureOp P o ρ' := by
  cases o <;> simp only [pureOp] <;> simp only [Op.operands] at h
  case build t parts => rw [parts_congr fun x hx => h x.2 (by simp only [List.mem_map]; exact ⟨x, hx, rfl⟩)]
  case makeFunc fn first cap =>
    rw [vals_congr (l := first.toList) fun x hx => h x (by simp only [Array.toList_append, List.mem_append]; exact .inl hx), vals_congr (l := cap.toList) fun x hx => h x (by simp only [Array.toList_append, List.mem_append]; exact .inr hx)]
  case slice t x lo hi mx =>
    rw [h x (by simp), opt_congr (x := lo) fun y hy => h y (by simp at hy; simp [hy]), opt_congr (x := hi) fun y hy => h y (by simp at hy; simp [hy]), opt_congr (x := mx) fun y hy => h y (by simp at hy; simp [hy])]
  case call c =>
    unfold pureCall
    rw [(call_ops h).1]
  all_goals first
    | rfl
    | (simp_all; done)

theorem read_congr {ρ ρ' : Operand → Value} (o : Op) (H : AHeap) (h : ∀ x ∈ o.operands.toList, ρ x = ρ' x) : readOp P o ρ H = readOp P o ρ' H := by
  cases o <;> simp only [readOp] <;> simp only [Op.operands] at h
  case slice t x lo hi mx =>
    rw [h x (by simp), opt_congr (x := lo) fun y hy => h y (by simp at hy; simp [hy]), opt_congr (x := hi) fun y hy => h y (by simp at hy; simp [hy]), opt_congr (x := mx) fun y hy => h y (by simp at hy; simp [hy])]
  case call c =>
    unfold readCall
    rw [(call_ops h).1]
  all_goals first
    | rfl
    | (simp_all; done)

theorem alloc_congr {ρ ρ' : Operand → Value} (o : Op) (h : ∀ x ∈ o.operands.toList, ρ x = ρ' x) : allocOp P o ρ = allocOp P o ρ' := by
  cases o <;> simp only [allocOp] <;> simp only [Op.operands] at h
  case buildSlice t n parts => rw [parts_congr fun x hx => h x.2 (by simp only [List.mem_map]; exact ⟨x, hx, rfl⟩)]
  case makeMap t r => rw [opt_congr fun y hy => h y (by cases r <;> simp_all)]
  all_goals first
    | rfl
    | (simp_all; done)

theorem eff_congr {callF : CallF} {ρ ρ' : Operand → Value} (o : Op) (H : AHeap) (h : ∀ x ∈ o.operands.toList, ρ x = ρ' x) : effOp callF P o ρ H = effOp callF P o ρ' H := by
  cases o <;> simp only [effOp] <;> simp only [Op.operands] at h
  case call c =>
    unfold effCall
    obtain ⟨h1, h2⟩ := call_ops h
    split
    · rename_i f hf; rw [h1, h2 f hf]
    · rw [h1]
    · rw [h1]
    · rfl
  all_goals first
    | rfl
    | (simp_all; done)

/-- A valuation that knows the operands of one operation alone. -/
noncomputable def onlyFor (o : Op) (ρ : Operand → Value) : Operand → Value :=
  open Classical in fun x => if x ∈ o.operands.toList then ρ x else undef

theorem onlyFor_eq {o : Op} {ρ : Operand → Value} {x : Operand} (h : x ∈ o.operands.toList) : ρ x = onlyFor o ρ x := by
  unfold onlyFor; rw [if_pos h]

theorem onlyFor_rel {φ : Phi} {o : Op} {ρ ρ' : Operand → Value} (h : ∀ x ∈ o.operands.toList, VRel φ (ρ x) (ρ' x)) (x : Operand) : VRel φ (onlyFor o ρ x) (ρ' x) := by
  unfold onlyFor
  split
  · exact h x (by assumption)
  · exact .undef _

/-! ## What must stand ahead -/

theorem ancs_acc : ∀ (os : List Oper) (acc : List Nat), (ancs os acc).take acc.length = acc ∧ (ancs os acc).length = acc.length + os.length
  | [], acc => by simp [ancs]
  | o :: os, acc => by
    simp only [ancs]
    obtain ⟨h1, h2⟩ := ancs_acc os (acc ++ [o.after.toList.foldl (fun s e => if Region.binds .any e then s ||| 2 ^ e.on ||| acc.getD e.on 0 else s) 0])
    refine ⟨?_, by rw [h2]; simp; omega⟩
    have h3 := congrArg (List.take acc.length) h1
    rw [List.take_take] at h3
    simp only [List.length_append, List.length_cons, List.length_nil] at h3
    rw [Nat.min_eq_left (by omega)] at h3
    rw [h3]; simp

theorem fold_bits (acc : List Nat) (j : Nat) : ∀ (es : List Edge) (s : Nat), (es.foldl (fun s e => if Region.binds .any e then s ||| 2 ^ e.on ||| acc.getD e.on 0 else s) s).testBit j = true →
    s.testBit j = true ∨ ∃ e ∈ es, Region.binds .any e = true ∧ (e.on = j ∨ (acc.getD e.on 0).testBit j = true)
  | [], s, h => .inl h
  | e :: es, s, h => by
    simp only [List.foldl_cons] at h
    rcases fold_bits acc j es _ h with h1 | ⟨e', he', hb, h1⟩
    · split at h1
      · rename_i hb
        simp only [Nat.testBit_or, Bool.or_eq_true] at h1
        rcases h1 with (h1 | h1) | h1
        · exact .inl h1
        · refine .inr ⟨e, by simp, hb, .inl ?_⟩
          rw [Nat.testBit_two_pow] at h1
          simpa using h1
        · exact .inr ⟨e, by simp, hb, .inr h1⟩
      · exact .inl h1
    · exact .inr ⟨e', by simp [he'], hb, h1⟩

theorem ancs_get : ∀ (os : List Oper) (acc : List Nat) (k : Nat) (o : Oper), os[k]? = some o → ∃ pre : List Nat, pre.length = acc.length + k ∧ (ancs os acc).take (acc.length + k) = pre ∧
    (ancs os acc)[acc.length + k]? = some (o.after.toList.foldl (fun s e => if Region.binds .any e then s ||| 2 ^ e.on ||| pre.getD e.on 0 else s) 0)
  | [], acc, k, o, h => by simp at h
  | o' :: os, acc, 0, o, h => by
    simp at h; subst h
    simp only [ancs]
    obtain ⟨h1, h2⟩ := ancs_acc os (acc ++ [o'.after.toList.foldl (fun s e => if Region.binds .any e then s ||| 2 ^ e.on ||| acc.getD e.on 0 else s) 0])
    refine ⟨acc, by simp, ?_, ?_⟩
    · have h3 := congrArg (List.take acc.length) h1
      rw [List.take_take] at h3
      simp only [List.length_append, List.length_cons, List.length_nil] at h3
      rw [Nat.min_eq_left (by omega)] at h3
      rw [Nat.add_zero, h3]; simp
    · have h3 := congrArg (fun l => l[acc.length]?) h1
      simp only [List.length_append, List.length_cons, List.length_nil] at h3
      rw [List.getElem?_take_of_lt (by omega)] at h3
      rw [Nat.add_zero, h3]; simp
  | o' :: os, acc, k + 1, o, h => by
    simp only [ancs]
    obtain ⟨pre, h1, h2, h3⟩ := ancs_get os (acc ++ [o'.after.toList.foldl (fun s e => if Region.binds .any e then s ||| 2 ^ e.on ||| acc.getD e.on 0 else s) 0]) k o (by simpa using h)
    simp only [List.length_append, List.length_cons, List.length_nil] at h1 h2 h3
    refine ⟨pre, by omega, ?_, ?_⟩
    · rw [← h2]; congr 1; omega
    · rw [← h3]; congr 1; omega

/-- A fellow that must stand ahead is named, or stands ahead of one that is named. -/
theorem isAnc_edge {ops : Array Oper} {i j : Nat} {o : Oper} (ho : ops[i]? = some o) (h : isAnc (ancOf ops) j i = true) :
    ∃ e ∈ o.after.toList, Region.binds .any e = true ∧ (e.on = j ∨ (e.on < i ∧ isAnc (ancOf ops) j e.on = true)) := by
  have ho' : ops.toList[i]? = some o := by rw [Array.getElem?_toList]; exact ho
  obtain ⟨pre, h1, h2, h3⟩ := ancs_get ops.toList [] i o ho'
  simp only [List.length_nil, Nat.zero_add] at h1 h2 h3
  unfold isAnc at h
  rw [ancOf, List.getD, h3] at h
  simp only [Option.getD_some] at h
  rcases fold_bits pre j _ _ h with h4 | ⟨e, he, hb, h4⟩
  · simp at h4
  · refine ⟨e, he, hb, ?_⟩
    rcases h4 with h4 | h4
    · exact .inl h4
    · right
      have hlt : e.on < i := by
        rcases Nat.lt_or_ge e.on i with h | h
        · exact h
        · rw [List.getD, List.getElem?_eq_none (by omega)] at h4; simp at h4
      refine ⟨hlt, ?_⟩
      unfold isAnc
      rw [ancOf]
      have h5 := congrArg (fun l => l.getD e.on 0) h2
      simp only [List.getD] at h5 h4 ⊢
      rw [List.getElem?_take_of_lt hlt] at h5
      rw [h5]; exact h4

/-- Of a set that holds with each operation all that it names: it holds all that must stand ahead. -/
theorem isAnc_closed {ops : Array Oper} {S : Nat → Prop} (hS : ∀ i o, ops[i]? = some o → S i → ∀ e ∈ o.after.toList, Region.binds .any e = true → S e.on) :
    ∀ (n i j : Nat) (o : Oper), i ≤ n → ops[i]? = some o → (∀ e ∈ o.after.toList, Region.binds .any e = true → S e.on) → isAnc (ancOf ops) j i = true → S j := by
  intro n
  induction n with
  | zero =>
    intro i j o hi ho hr h
    obtain ⟨e, he, hb, h1⟩ := isAnc_edge ho h
    rcases h1 with rfl | ⟨h1, _⟩
    · exact hr e he hb
    · omega
  | succ n ih =>
    intro i j o hi ho hr h
    obtain ⟨e, he, hb, h1⟩ := isAnc_edge ho h
    rcases h1 with rfl | ⟨h1, h2⟩
    · exact hr e he hb
    · have hSe := hr e he hb
      have hlt : i < ops.size := (Array.getElem?_eq_some_iff.1 ho).1
      have ho2 : ops[e.on]? = some ops[e.on] := Array.getElem?_eq_getElem (by omega)
      exact ih e.on j _ (by omega) ho2 (hS e.on _ ho2 hSe) h2

end Go.Abs

namespace Go.Abs

variable {P : Program}

/-! ## Values that are surely one -/

theorem sameScalar_eq {x y : Value} (h : sameScalar x y = true) : x = y := by
  unfold sameScalar at h
  split at h <;> first
    | (simp at h; subst h; rfl)
    | (simp only [Bool.and_eq_true] at h; obtain ⟨h1, h2⟩ := h; rw [sameKind_eq] at h1; rw [eqI_eq, beq_iff_eq] at h2; rw [h1, h2])
    | (simp only [beq_iff_eq] at h; congr 1; exact ByteArray.ext (Array.ext' h))
    | (simp only [Bool.and_eq_true, beq_iff_eq] at h; obtain ⟨⟨h1, h2⟩, h3⟩ := h; rw [h1, Nat.eq_of_beq_eq_true h2, Nat.eq_of_beq_eq_true h3])
    | rfl
    | (simp at h; done)

theorem sameCells_eq : ∀ {l m : List Value}, sameCells l m = true → l = m
  | [], [], _ => rfl
  | [], _ :: _, h => by simp [sameCells] at h
  | _ :: _, [], h => by simp [sameCells] at h
  | x :: l, y :: m, h => by
    simp only [sameCells, Bool.and_eq_true] at h
    rw [sameScalar_eq h.1, sameCells_eq h.2]

theorem sameVal_eq {x y : Value} (h : sameVal x y = true) : x = y := by
  unfold sameVal at h
  split at h
  · congr 1; exact Array.ext' (sameCells_eq h)
  · simp only [Bool.and_eq_true, beq_iff_eq] at h
    rw [Nat.eq_of_beq_eq_true h.1, h.2]
  · simp only [Bool.and_eq_true] at h
    rw [Nat.eq_of_beq_eq_true h.1.1, Array.ext' (sameCells_eq h.1.2), Array.ext' (sameCells_eq h.2)]
  · exact sameScalar_eq h

/-! ## The trace -/

/-- One place of the trace. -/
def Place (callF : CallF) (P : Program) (ops : Array Oper) (o : Oper) (a : AAct) (H : AHeap) (a' : AAct) (H' : AHeap) : Prop :=
  (wantedA ops a.tmps o.guard = some false ∧ a' = a.put o.dst undef ∧ H' = H) ∨ (wantedA ops a.tmps o.guard = some true ∧ Came callF P o.op o.dst a H a' H')

structure Trace (callF : CallF) (P : Program) (ops : Array Oper) (anc : List Nat) (C : List Nat) (acts : Nat → AAct) (heaps : Nat → AHeap) : Prop where
  step : ∀ t i, C[t]? = some i → ∃ o, ops[i]? = some o ∧ Place callF P ops o (acts t) (heaps t) (acts (t + 1)) (heaps (t + 1))
  again : ∀ t s i j oi oj, t < s → C[t]? = some i → C[s]? = some j → ops[i]? = some oi → ops[j]? = some oj → cls P oi.op = .R → cls P oj.op = .E →
    wantedA ops (acts t).tmps oi.guard = some true → wantedA ops (acts s).tmps oj.guard = some true → isAnc anc i j = false →
    readOp P oi.op ((acts t).eval P) (heaps (s + 1)) = readOp P oi.op ((acts t).eval P) (heaps t)

def consF {α : Type} (x : α) (f : Nat → α) : Nat → α
  | 0 => x
  | n + 1 => f n

theorem rereads_mem {anc : List Nat} {j : Nat} {H : AHeap} : ∀ {ds : List Done}, rereads P anc j H ds = true → ∀ d ∈ ds, isAnc anc d.i j = false → readOp P d.op (d.act.eval P) H = some d.val
  | [], _, d, hd, _ => by simp at hd
  | d' :: ds, h, d, hd, hn => by
    simp only [rereads, Bool.and_eq_true, Bool.or_eq_true] at h
    rcases List.mem_cons.1 hd with rfl | hd
    · rcases h.1 with h1 | h1
      · rw [hn] at h1; simp at h1
      · unfold sameOpt at h1
        split at h1
        · rename_i v' hv; rw [hv, sameVal_eq h1]
        · simp at h1
    · exact rereads_mem h.2 d hd hn

theorem runDraw_trace {callF : CallF} {ops : Array Oper} {anc : List Nat} : ∀ (C : List Nat) (ds : List Done) (a a' : AAct) (H H' : AHeap), runDraw callF P ops anc C ds a H = some (a', H') →
    ∃ acts heaps, acts 0 = a ∧ heaps 0 = H ∧ acts C.length = a' ∧ heaps C.length = H' ∧ Trace callF P ops anc C acts heaps ∧
      ∀ d ∈ ds, ∀ s j oj, C[s]? = some j → ops[j]? = some oj → cls P oj.op = .E → wantedA ops (acts s).tmps oj.guard = some true → isAnc anc d.i j = false → readOp P d.op (d.act.eval P) (heaps (s + 1)) = some d.val
  | [], ds, a, a', H, H', h => by
    simp only [runDraw, Option.some.injEq, Prod.mk.injEq] at h
    exact ⟨fun _ => a, fun _ => H, rfl, rfl, h.1, h.2, ⟨fun t i ht => by simp at ht, fun t s i j oi oj _ ht => by simp at ht⟩, fun d _ s j oj hs => by simp at hs⟩
  | i :: C, ds, a, a', H, H', h => by
    unfold runDraw at h
    split at h
    · simp at h
    · rename_i o ho
      rw [nth_eq, Array.getElem?_toList] at ho
      have build : ∀ (a1 : AAct) (H1 : AHeap) (ds1 : List Done), runDraw callF P ops anc C ds1 a1 H1 = some (a', H') → Place callF P ops o a H a1 H1 → (∀ d ∈ ds, d ∈ ds1) →
          (cls P o.op = .E → wantedA ops a.tmps o.guard = some true → ∀ d ∈ ds, isAnc anc d.i i = false → readOp P d.op (d.act.eval P) H1 = some d.val) →
          (cls P o.op = .R → wantedA ops a.tmps o.guard = some true → ∃ v, readOp P o.op (a.eval P) H = some v ∧ ⟨i, o.op, a, v⟩ ∈ ds1) →
          ∃ acts heaps, acts 0 = a ∧ heaps 0 = H ∧ acts (i :: C).length = a' ∧ heaps (i :: C).length = H' ∧ Trace callF P ops anc (i :: C) acts heaps ∧
            ∀ d ∈ ds, ∀ s j oj, (i :: C)[s]? = some j → ops[j]? = some oj → cls P oj.op = .E → wantedA ops (acts s).tmps oj.guard = some true → isAnc anc d.i j = false → readOp P d.op (d.act.eval P) (heaps (s + 1)) = some d.val := by
        intro a1 H1 ds1 hrun hp hsub hE hRd
        obtain ⟨acts, heaps, e1, e2, e3, e4, htr, hds⟩ := runDraw_trace C ds1 a1 a' H1 H' hrun
        refine ⟨consF a acts, consF H heaps, rfl, rfl, e3, e4, ⟨fun t k ht => ?_, fun t s i1 j1 oi oj hts ht hs hoi hoj hci hcj hwi hwj hn => ?_⟩, fun d hd s j oj hs hoj hcj hwj hn => ?_⟩
        · cases t with
          | zero =>
            simp at ht; subst ht
            refine ⟨o, ho, ?_⟩
            show Place callF P ops o a H (acts 0) (heaps 0)
            rw [e1, e2]; exact hp
          | succ t => exact htr.step t k (by simpa using ht)
        · cases s with
          | zero => omega
          | succ s =>
            cases t with
            | zero =>
              simp at ht; subst ht
              rw [ho] at hoi
              simp only [Option.some.injEq] at hoi
              subst hoi
              obtain ⟨v, hv, hm⟩ := hRd hci hwi
              show readOp P o.op (a.eval P) (heaps (s + 1)) = readOp P o.op (a.eval P) H
              rw [hv]
              exact hds _ hm s j1 oj (by simpa using hs) hoj hcj hwj hn
            | succ t => exact htr.again t s i1 j1 oi oj (by omega) (by simpa using ht) (by simpa using hs) hoi hoj hci hcj hwi hwj hn
        · cases s with
          | zero =>
            simp at hs; subst hs
            rw [ho] at hoj
            simp only [Option.some.injEq] at hoj
            subst hoj
            show readOp P d.op (d.act.eval P) (heaps 0) = some d.val
            rw [e2]
            exact hE hcj hwj d hd hn
          | succ s => exact hds d (hsub d hd) s j oj (by simpa using hs) hoj hcj hwj hn
      split at h
      · simp at h
      · rename_i hw
        exact build _ _ ds h (.inl ⟨hw, rfl, rfl⟩) (fun d hd => hd) (fun _ hw' => by rw [hw] at hw'; simp at hw') (fun _ hw' => by rw [hw] at hw'; simp at hw')
      · rename_i hw
        split at h
        · simp at h
        · rename_i a1 H1 hs
          have hc := stepOp_came hs
          split at h
          · rename_i hcl
            split at h
            · rename_i hrr
              exact build _ _ ds h (.inr ⟨hw, hc⟩) (fun d hd => hd) (fun _ _ d hd hn => rereads_mem hrr d hd hn) (fun hR => by rw [hcl] at hR; simp at hR)
            · simp at h
          · rename_i hcl
            split at h
            · rename_i v hv
              exact build _ _ _ h (.inr ⟨hw, hc⟩) (fun d hd => by simp [hd]) (fun hE => by rw [hcl] at hE; simp at hE) (fun _ _ => ⟨v, hv, by simp⟩)
            · simp at h
          · rename_i hnE hnR
            exact build _ _ ds h (.inr ⟨hw, hc⟩) (fun d hd => hd) (fun hE => absurd hE hnE) (fun hR => absurd hR hnR)

/-! ## What the check says -/

theorem ahead_facts {ops : Array Oper} {anc : List Nat} : ∀ (C before : List Nat), aheadOk P ops anc before C = true → ∀ (t i : Nat), C[t]? = some i →
    ∃ o, ops[i]? = some o ∧ notSelect o.op = true ∧ (∀ e ∈ o.after.toList, Region.binds .any e = true → e.on ∈ before ∨ ∃ u, u < t ∧ C[u]? = some e.on) ∧
      (∀ j ∈ before, pairOk P ops anc i o j = true) ∧ (∀ u j, u < t → C[u]? = some j → pairOk P ops anc i o j = true)
  | [], _, _, t, i, ht => by simp at ht
  | i0 :: C, before, h, t, i, ht => by
    unfold aheadOk at h
    simp only [Bool.and_eq_true] at h
    obtain ⟨h1, h2⟩ := h
    cases t with
    | zero =>
      simp at ht; subst ht
      split at h1
      · simp at h1
      · rename_i o ho
        rw [nth_eq, Array.getElem?_toList] at ho
        simp only [Bool.and_eq_true, List.all_eq_true, Bool.or_eq_true, Bool.not_eq_true'] at h1
        refine ⟨o, ho, h1.1.2, fun e he hb => ?_, h1.2, fun u j hu => by omega⟩
        rcases h1.1.1 e he with h3 | h3
        · rw [hb] at h3; simp at h3
        · left; simpa using h3
    | succ t =>
      obtain ⟨o, g1, g2, g3, g4, g5⟩ := ahead_facts C (i0 :: before) h2 t i (by simpa using ht)
      refine ⟨o, g1, g2, fun e he hb => ?_, fun j hj => g4 j (by simp [hj]), fun u j hu hj => ?_⟩
      · rcases g3 e he hb with h3 | ⟨u, hu, h3⟩
        · rcases List.mem_cons.1 h3 with h3 | h3
          · exact .inr ⟨0, by omega, by simp [h3]⟩
          · exact .inl h3
        · exact .inr ⟨u + 1, by omega, by simpa using h3⟩
      · cases u with
        | zero => simp at hj; subst hj; exact g4 _ (by simp)
        | succ u => exact g5 u j (by omega) (by simpa using hj)

structure Static (P : Program) (ops : Array Oper) (C : List Nat) : Prop where
  op : ∀ (t i : Nat), C[t]? = some i → ∃ o, ops[i]? = some o ∧ notSelect o.op = true ∧ (∀ e ∈ o.after.toList, Region.binds .any e = true → ∃ u : Nat, u < t ∧ C[u]? = some e.on) ∧
    ∀ (u j : Nat), u < t → C[u]? = some j → pairOk P ops (ancOf ops) i o j = true
  all : ∀ i : Nat, i < ops.size → ∃ t : Nat, C[t]? = some i

theorem drawOk_static {ops : Array Oper} {C : List Nat} (h : drawOk P ops C = true) : Static P ops C := by
  unfold drawOk at h
  simp only [Bool.and_eq_true, List.all_eq_true, List.mem_range] at h
  refine ⟨fun t i ht => ?_, fun i hi => ?_⟩
  · obtain ⟨o, g1, g2, g3, g4, g5⟩ := ahead_facts C [] h.2 t i ht
    refine ⟨o, g1, g2, fun e he hb => ?_, g5⟩
    rcases g3 e he hb with h3 | h3
    · simp at h3
    · exact h3
  · have := h.1 i hi
    have hm : i ∈ C := by simpa using this
    obtain ⟨t, ht⟩ := List.mem_iff_getElem?.1 hm
    exact ⟨t, ht⟩

/-- What a pair's check says. -/
theorem pair_info {ops : Array Oper} {anc : List Nat} {i j : Nat} {o o' : Oper} (ho' : ops[j]? = some o') (h : pairOk P ops anc i o j = true) :
    i ≠ j ∧ (∀ d, o.dst = some d → o'.dst ≠ some d) ∧
    (isAnc anc j i = true ∨ ((isEarly (cls P o'.op) = true ∨ cls P o.op = .P ∨ cls P o.op = .A) ∧ (∀ d, o.dst = some d → d ∉ touches ops o') ∧ (∀ d, o'.dst = some d → d ∉ touches ops o))) := by
  unfold pairOk at h
  rw [nth_eq, Array.getElem?_toList, ho'] at h
  simp only [Bool.and_eq_true, Bool.or_eq_true, Bool.not_eq_true'] at h
  obtain ⟨⟨h1, h2⟩, h3⟩ := h
  refine ⟨fun e => ?_, fun d hd hd' => ?_, ?_⟩
  · subst e; rw [Nat_beq_eq'] at h1; simp at h1
  · unfold dstApart at h2
    rw [hd, hd'] at h2
    simp at h2
  · rcases h3 with h3 | ⟨⟨h3, h4⟩, h5⟩
    · exact .inl h3
    · refine .inr ⟨?_, fun d hd => ?_, fun d hd => ?_⟩
      · rcases h3 with h3 | h3
        · exact .inl h3
        · right
          split at h3
          · rename_i hc; exact .inl hc
          · rename_i hc; exact .inr hc
          · simp at h3
      · unfold offDst at h4
        rw [hd] at h4
        simpa using h4
      · unfold offDst at h5
        rw [hd] at h5
        simpa using h5

end Go.Abs

namespace Go.Abs

variable {P : Program}

/-! ## A part of the heap goes on -/

def Sub (L G : AHeap) : Prop := ∀ k B, L.get k = some B → G.get k = some B
def Low (L : AHeap) : Prop := ∀ k B, L.get k = some B → k < L.next

theorem Rel.sub_heap {φ : Phi} {L G : AHeap} {w : World} (h : Rel φ G w) (hs : Sub L G) (hl : Low L) : Rel φ L w :=
  ⟨fun i B hB => h.blk i B (hs i B hB), fun i j B B' hi hj hr => h.inj i j B B' (hs _ _ hi) (hs _ _ hj) hr, hl⟩

theorem Img.up {φ : Phi} {L G : AHeap} {b : Nat} (hs : Sub L G) (h : Img φ L b) : Img φ G b := by
  obtain ⟨i, B, c, l, h1, h2, h3⟩ := h
  exact ⟨i, B, c, l, hs _ _ h1, h2, h3⟩

structure Merged (φ : Phi) (G : AHeap) (w : World) (φ' : Phi) (G' : AHeap) (w' : World) : Prop where
  rel : Rel φ' G' w'
  keep : ∀ b, b < w.heap.size → ¬ Img φ G b → w'.heap[b]? = w.heap[b]? ∧ ¬ Img φ' G' b
  ro : ∀ k B, G'.get k = some B → B.isRo = true → G.get k = some B

theorem merge {φ φ' : Phi} {G L L' G' : AHeap} {w w' : World} (hG : Rel φ G w) (hsub : Sub L G) (hlow : Low L) (hs : Step φ L w φ' L' w') (hL' : Rel φ' L' w') (hfree : Free φ L.next L'.next)
    (hnew : ∀ k B, G'.get k = some B → L'.get k = some B ∨ (G.get k = some B ∧ L.get k = none ∧ (k < L.next ∨ L'.next ≤ k))) (hn : Low G') : Merged φ G w φ' G' w' := by
  have hle := hs.le hfree
  have rest : ∀ k B, G.get k = some B → L.get k = none → (k < L.next ∨ L'.next ≤ k) → ∃ b c l, φ k = some (b, c, l) ∧ φ' k = some (b, c, l) ∧ BRel φ w b c l B ∧ w'.heap[b]? = w.heap[b]? ∧ ¬ Img φ' L' b := by
    intro k B hk hn hlt
    obtain ⟨b, c, l, h1, h2⟩ := hG.blk k B hk
    have hni : ¬ Img φ L b := by
      rintro ⟨j, B', c', l', h3, h4, h5⟩
      have := hG.inj j k _ _ (hsub _ _ h3) hk (.inl h4) _ _ _ _ _ h5 h1
      subst this
      rw [hn] at h3; simp at h3
    obtain ⟨h3, h4⟩ := hs.keep b h2.lt hni
    exact ⟨b, c, l, h1, hle _ _ h1, h2, h3, h4⟩
  refine ⟨⟨fun k B hk => ?_, fun i j B B' hi hj hr b c l c' l' hp hp' => ?_, hn⟩, fun b hb hi => ?_, fun k B hk hr => ?_⟩
  · rcases hnew k B hk with h | ⟨h1, h2, h3⟩
    · exact hL'.blk k B h
    · obtain ⟨b, c, l, g1, g2, g3, g4, g5⟩ := rest k B h1 h2 h3
      exact ⟨b, c, l, g2, g3.mono hle g4⟩
  · have cross : ∀ (i j : Nat) (B B' : Blk), L'.get i = some B → (G.get j = some B' ∧ L.get j = none ∧ (j < L.next ∨ L'.next ≤ j)) → (B.isRo = false ∨ B'.isRo = false) → ∀ b c l c' l', φ' i = some (b, c, l) → φ' j = some (b, c', l') → False := by
      intro i j B B' hi ⟨h1, h2, h3⟩ hr b c l c' l' hp hp'
      obtain ⟨b1, c1, l1, g1, g2, g3, g4, g5⟩ := rest j B' h1 h2 h3
      rw [g2] at hp'
      simp only [Option.some.injEq, Prod.mk.injEq] at hp'
      obtain ⟨rfl, rfl, rfl⟩ := hp'
      cases hB : B.isRo with
      | false => exact g5 ⟨i, B, c, l, hi, hB, hp⟩
      | true =>
        have hiL := hs.ro i B hi hB
        have hpi : φ i = some (b1, c, l) := by rw [← hs.ext i (.inl (hlow _ _ hiL))]; exact hp
        have := hG.inj i j _ _ (hsub _ _ hiL) h1 hr _ _ _ _ _ hpi g1
        subst this
        rw [h2] at hiL; simp at hiL
    rcases hnew i B hi with h | h <;> rcases hnew j B' hj with h' | h'
    · exact hL'.inj i j B B' h h' hr b c l c' l' hp hp'
    · exact (cross i j B B' h h' hr _ _ _ _ _ hp hp').elim
    · exact (cross j i B' B h' h hr.symm _ _ _ _ _ hp' hp).elim
    · obtain ⟨b1, c1, l1, g1, g2, _⟩ := rest i B h.1 h.2.1 h.2.2
      obtain ⟨b2, c2, l2, g3, g4, _⟩ := rest j B' h'.1 h'.2.1 h'.2.2
      rw [g2] at hp
      rw [g4] at hp'
      simp only [Option.some.injEq, Prod.mk.injEq] at hp hp'
      obtain ⟨rfl, _, _⟩ := hp
      obtain ⟨rfl, _, _⟩ := hp'
      exact hG.inj i j B B' h.1 h'.1 hr _ _ _ _ _ g1 g3
  · obtain ⟨h1, h2⟩ := hs.keep b hb (fun h => hi (h.up hsub))
    refine ⟨h1, ?_⟩
    rintro ⟨k, B, c, l, h3, h4, h5⟩
    rcases hnew k B h3 with h | ⟨g1, g2, g3⟩
    · exact h2 ⟨k, B, c, l, h, h4, h5⟩
    · obtain ⟨b1, c1, l1, e1, e2, _⟩ := rest k B g1 g2 g3
      rw [e2] at h5
      simp only [Option.some.injEq, Prod.mk.injEq] at h5
      obtain ⟨rfl, _, _⟩ := h5
      exact hi ⟨k, B, c1, l1, g1, h4, e1⟩
  · rcases hnew k B hk with h | h
    · exact hsub _ _ (hs.ro k B h hr)
    · exact h.1

theorem Merged.step {φ0 φ φ' : Phi} {H0 G G' L L' : AHeap} {w0 w w' : World} (h : Step φ0 H0 w0 φ G w) (hm : Merged φ G w φ' G' w') (hs : Step φ L w φ' L' w') (hg : G'.next = G.next) (h1 : H0.next ≤ L.next) (h2 : L'.next ≤ G.next) : Step φ0 H0 w0 φ' G' w' where
  ext i hi := by
    rw [hg] at hi
    have hn := hs.next
    rcases hi with hi | hi
    · rw [hs.ext i (.inl (by omega))]; exact h.ext i (.inl hi)
    · rw [hs.ext i (.inr (by omega))]; exact h.ext i (.inr hi)
  next := by rw [hg]; exact h.next
  size := Nat.le_trans h.size hs.size
  keep b hb hi := by
    obtain ⟨g1, g2⟩ := h.keep b hb hi
    obtain ⟨g3, g4⟩ := hm.keep b (Nat.lt_of_lt_of_le hb h.size) g2
    exact ⟨g3.trans g1, g4⟩
  os := hs.os.trans h.os
  out := hs.out.trans h.out
  tape := hs.tape.trans h.tape
  ro k B hB hr := h.ro k B (hm.ro k B hB hr) hr

/-- A heap that is one heap below a number and another above. -/
theorem heap_join (L G : AHeap) : ∀ c : Nat, ∃ G' : AHeap, G'.next = G.next ∧ ∀ k, G'.get k = if k < c then L.get k else G.get k
  | 0 => ⟨G, rfl, fun k => by simp⟩
  | c + 1 => by
    obtain ⟨G', h1, h2⟩ := heap_join L G c
    refine ⟨G'.set c (L.get c), h1, fun k => ?_⟩
    rw [AHeap.get_set]
    by_cases hk : k = c
    · subst hk; simp
    · rw [if_neg hk, h2]
      by_cases hlt : k < c
      · rw [if_pos hlt, if_pos (by omega)]
      · rw [if_neg hlt, if_neg (by omega)]

/-! ## What one place of the trace keeps -/

variable {callF : CallF} {ops : Array Oper} {anc : List Nat} {C : List Nat} {acts : Nat → AAct} {heaps : Nat → AHeap}

theorem put_get (a : AAct) (dst : Option Tmp) (v : Value) {d : Nat} (h : dst ≠ some d) : getT (a.put dst v).tmps d = getT a.tmps d := by
  cases dst with
  | none => rfl
  | some e =>
    have : e ≠ d := fun h' => h (by rw [h'])
    simp only [AAct.put]
    rw [getT_eq, getT_eq, setT_eq]
    simp [List.getD, this]
theorem put_len (a : AAct) (dst : Option Tmp) (v : Value) : (a.put dst v).tmps.length = a.tmps.length := by
  cases dst with
  | none => rfl
  | some e => simp [AAct.put, setT_eq]
theorem put_defers (a : AAct) (dst : Option Tmp) (v : Value) : (a.put dst v).defers = a.defers := by cases dst <;> rfl
theorem put_same (a b : AAct) (dst : Option Tmp) (v : Value) {d : Nat} (h : dst = some d) (hl : a.tmps.length = b.tmps.length) : getT (a.put dst v).tmps d = getT (b.put dst v).tmps d := by
  subst h
  simp only [AAct.put]
  rw [getT_eq, getT_eq, setT_eq, setT_eq]
  by_cases hd : d < a.tmps.length
  · have hd' : d < b.tmps.length := by omega
    simp [List.getD, hd, hd']
  · have hd' : ¬ d < b.tmps.length := by omega
    simp [List.getD, hd, hd']

theorem came_keeps {op : Op} {dst : Option Tmp} {a a' : AAct} {H H' : AHeap} (h : Came callF P op dst a H a' H') :
    (∀ d, dst ≠ some d → getT a'.tmps d = getT a.tmps d) ∧ a'.tmps.length = a.tmps.length ∧ (cls P op ≠ .E → a'.defers = a.defers) := by
  cases h with
  | pure hc h => exact ⟨fun d hd => put_get _ _ _ hd, put_len _ _ _, fun _ => put_defers _ _ _⟩
  | read hc h => exact ⟨fun d hd => put_get _ _ _ hd, put_len _ _ _, fun _ => put_defers _ _ _⟩
  | alloc hc h => exact ⟨fun d hd => put_get _ _ _ hd, put_len _ _ _, fun _ => put_defers _ _ _⟩
  | eff hc hd h => exact ⟨fun d hd => put_get _ _ _ hd, put_len _ _ _, fun _ => put_defers _ _ _⟩
  | defer hc ho h => exact ⟨fun d hd => put_get ⟨a.tmps, _⟩ _ _ hd, put_len ⟨a.tmps, _⟩ _ _, fun hn => absurd hc hn⟩

theorem came_heap {op : Op} {dst : Option Tmp} {a a' : AAct} {H H' : AHeap} (h : Came callF P op dst a H a' H') (hA : cls P op ≠ .A) (hE : cls P op ≠ .E) : H' = H := by
  cases h with
  | pure => rfl
  | read => rfl
  | alloc h' _ => exact absurd h' hA
  | eff h' _ _ => exact absurd h' hE
  | defer h' _ _ => exact absurd h' hE

theorem place_keeps {o : Oper} {a a' : AAct} {H H' : AHeap} (h : Place callF P ops o a H a' H') :
    (∀ d, o.dst ≠ some d → getT a'.tmps d = getT a.tmps d) ∧ a'.tmps.length = a.tmps.length := by
  rcases h with ⟨_, rfl, _⟩ | ⟨_, h⟩
  · exact ⟨fun d hd => put_get _ _ _ hd, put_len _ _ _⟩
  · exact ⟨(came_keeps h).1, (came_keeps h).2.1⟩

theorem place_next (hg : Grows callF) {o : Oper} {a a' : AAct} {H H' : AHeap} (h : Place callF P ops o a H a' H') : H.next ≤ H'.next := by
  rcases h with ⟨_, _, rfl⟩ | ⟨_, h⟩
  · exact Nat.le_refl _
  · exact came_next hg h

/-- What is made at a place. -/
def AllocAt (P : Program) (ops : Array Oper) (C : List Nat) (acts : Nat → AAct) (heaps : Nat → AHeap) (u k : Nat) (B : Blk) : Prop :=
  ∃ i o val, C[u]? = some i ∧ ops[i]? = some o ∧ wantedA ops (acts u).tmps o.guard = some true ∧ cls P o.op = .A ∧ allocOp P o.op ((acts u).eval P) = some (B, val) ∧ k = (heaps u).next

/-- At no place from h to t does a wanted call or write stand. -/
def NoE (P : Program) (ops : Array Oper) (C : List Nat) (acts : Nat → AAct) (h t : Nat) : Prop :=
  ∀ (u i : Nat) o, h ≤ u → u < t → C[u]? = some i → ops[i]? = some o → wantedA ops (acts u).tmps o.guard = some true → cls P o.op ≠ .E

theorem Trace.at (tr : Trace callF P ops anc C acts heaps) {t : Nat} (ht : t < C.length) : ∃ i o, C[t]? = some i ∧ ops[i]? = some o ∧ Place callF P ops o (acts t) (heaps t) (acts (t + 1)) (heaps (t + 1)) := by
  have h := List.getElem?_eq_getElem ht
  obtain ⟨o, h1, h2⟩ := tr.step t _ h
  exact ⟨_, o, h, h1, h2⟩

theorem Trace.get (tr : Trace callF P ops anc C acts heaps) {t d : Nat} : ∀ (m : Nat), t + m ≤ C.length → (∀ (s i : Nat) o, t ≤ s → s < t + m → C[s]? = some i → ops[i]? = some o → o.dst ≠ some d) → getT (acts (t + m)).tmps d = getT (acts t).tmps d
  | 0, _, _ => rfl
  | m + 1, hm, h => by
    obtain ⟨i, o, h1, h2, h3⟩ := tr.at (t := t + m) (by omega)
    rw [show t + (m + 1) = t + m + 1 by omega, (place_keeps h3).1 d (h (t + m) i o (by omega) (by omega) h1 h2)]
    exact tr.get m (by omega) fun s i o a b => h s i o a (by omega)

theorem Trace.len (tr : Trace callF P ops anc C acts heaps) : ∀ (m : Nat), m ≤ C.length → (acts m).tmps.length = (acts 0).tmps.length
  | 0, _ => rfl
  | m + 1, hm => by
    obtain ⟨i, o, h1, h2, h3⟩ := tr.at (t := m) (by omega)
    rw [(place_keeps h3).2]
    exact tr.len m (by omega)

theorem Trace.next (hg : Grows callF) (tr : Trace callF P ops anc C acts heaps) (t : Nat) : ∀ (m : Nat), t + m ≤ C.length → (heaps t).next ≤ (heaps (t + m)).next
  | 0, _ => Nat.le_refl _
  | m + 1, hm => by
    obtain ⟨i, o, h1, h2, h3⟩ := tr.at (t := t + m) (by omega)
    exact Nat.le_trans (tr.next hg t m (by omega)) (place_next hg h3)

theorem Trace.next_le (hg : Grows callF) (tr : Trace callF P ops anc C acts heaps) {t u : Nat} (h : t ≤ u) (hu : u ≤ C.length) : (heaps t).next ≤ (heaps u).next := by
  have := tr.next hg t (u - t) (by omega)
  rwa [show t + (u - t) = u by omega] at this

theorem place_alloc {o : Oper} {a a' : AAct} {H H' : AHeap} (h : Place callF P ops o a H a' H') (hw : wantedA ops a.tmps o.guard = some true) (hc : cls P o.op = .A) :
    ∃ B val, allocOp P o.op (a.eval P) = some (B, val) ∧ a' = a.put o.dst (val H.next) ∧ H' = H.push B := by
  rcases h with ⟨h, _, _⟩ | ⟨_, h⟩
  · rw [hw] at h; simp at h
  · cases h with
    | alloc _ h => exact ⟨_, _, h, rfl, rfl⟩
    | pure h' _ => rw [hc] at h'; simp at h'
    | read h' _ => rw [hc] at h'; simp at h'
    | eff h' _ _ => rw [hc] at h'; simp at h'
    | defer h' _ _ => rw [hc] at h'; simp at h'

theorem Trace.alloc_next (tr : Trace callF P ops anc C acts heaps) {u k : Nat} {B : Blk} (h : AllocAt P ops C acts heaps u k B) : (heaps (u + 1)).next = (heaps u).next + 1 ∧ u < C.length ∧ k = (heaps u).next ∧ (heaps (u + 1)) = (heaps u).push B := by
  obtain ⟨i, o, val, h1, h2, h3, h4, h5, h6⟩ := h
  obtain ⟨o', g1, g2⟩ := tr.step u i h1
  rw [h2] at g1
  simp only [Option.some.injEq] at g1; subst g1
  obtain ⟨B', val', e1, _, e2⟩ := place_alloc g2 h3 h4
  rw [h5] at e1
  simp only [Option.some.injEq, Prod.mk.injEq] at e1
  rw [e2, AHeap.next_push, ← e1.1]
  exact ⟨rfl, (List.getElem?_eq_some_iff.1 h1).1, h6, rfl⟩

theorem Trace.early (tr : Trace callF P ops anc C acts heaps) {h : Nat} : ∀ (m : Nat), h + m ≤ C.length → NoE P ops C acts h (h + m) →
    (acts (h + m)).defers = (acts h).defers ∧ (∀ k B, (heaps (h + m)).get k = some B → (heaps h).get k = some B ∨ ∃ u, h ≤ u ∧ u < h + m ∧ AllocAt P ops C acts heaps u k B) ∧
    (∀ k B, (heaps h).get k = some B → Low (heaps h) → (heaps (h + m)).get k = some B) ∧ (∀ u k B, h ≤ u → u < h + m → AllocAt P ops C acts heaps u k B → Low (heaps h) → (heaps (h + m)).get k = some B) ∧
    (Low (heaps h) → Low (heaps (h + m))) ∧ (heaps h).next ≤ (heaps (h + m)).next
  | 0, _, _ => ⟨rfl, fun k B h => .inl h, fun k B h _ => h, fun u k B h1 h2 => by omega, fun h => h, Nat.le_refl _⟩
  | m + 1, hm, hn => by
    obtain ⟨i1, i2, i3, i4, i5, i6⟩ := tr.early m (by omega) fun u i o a b => hn u i o a (by omega)
    obtain ⟨i, o, h1, h2, h3⟩ := tr.at (t := h + m) (by omega)
    rw [show h + (m + 1) = h + m + 1 by omega]
    have hold : heaps (h + m + 1) = heaps (h + m) → (∀ k B, ¬ AllocAt P ops C acts heaps (h + m) k B) → (acts (h + m + 1)).defers = (acts (h + m)).defers → _ := fun e1 e2 e3 =>
      show (acts (h + m + 1)).defers = (acts h).defers ∧ (∀ k B, (heaps (h + m + 1)).get k = some B → (heaps h).get k = some B ∨ ∃ u, h ≤ u ∧ u < h + m + 1 ∧ AllocAt P ops C acts heaps u k B) ∧
        (∀ k B, (heaps h).get k = some B → Low (heaps h) → (heaps (h + m + 1)).get k = some B) ∧ (∀ u k B, h ≤ u → u < h + m + 1 → AllocAt P ops C acts heaps u k B → Low (heaps h) → (heaps (h + m + 1)).get k = some B) ∧
        (Low (heaps h) → Low (heaps (h + m + 1))) ∧ (heaps h).next ≤ (heaps (h + m + 1)).next from by
        rw [e1, e3]
        refine ⟨i1, fun k B hk => ?_, i3, fun u k B a b hu hl => ?_, i5, i6⟩
        · rcases i2 k B hk with h | ⟨u, a, b, c⟩
          · exact .inl h
          · exact .inr ⟨u, a, by omega, c⟩
        · rcases Nat.lt_or_ge u (h + m) with hlt | hge
          · exact i4 u k B a hlt hu hl
          · have : u = h + m := by omega
            subst this
            exact absurd hu (e2 k B)
    rcases h3 with ⟨hw, e1, e2⟩ | ⟨hw, hcame⟩
    · refine hold e2 (fun k B ⟨i', o', val, g1, g2, g3, _⟩ => ?_) (by rw [e1, put_defers])
      rw [h1] at g1
      simp only [Option.some.injEq] at g1; subst g1
      rw [h2] at g2
      simp only [Option.some.injEq] at g2; subst g2
      rw [hw] at g3; simp at g3
    · have hnE := hn (h + m) i o (by omega) (by omega) h1 h2 hw
      have hd := (came_keeps hcame).2.2 hnE
      by_cases hA : cls P o.op = .A
      · obtain ⟨B1, val1, e1, e2, e3⟩ := place_alloc (.inr ⟨hw, hcame⟩) hw hA
        have hat : AllocAt P ops C acts heaps (h + m) (heaps (h + m)).next B1 := ⟨i, o, val1, h1, h2, hw, hA, e1, rfl⟩
        have huniq : ∀ k B, AllocAt P ops C acts heaps (h + m) k B → k = (heaps (h + m)).next ∧ B = B1 := by
          intro k B hk
          obtain ⟨i', o', val, g1, g2, g3, g4, g5, g6⟩ := hk
          rw [h1] at g1
          simp only [Option.some.injEq] at g1; subst g1
          rw [h2] at g2
          simp only [Option.some.injEq] at g2; subst g2
          rw [e1] at g5
          simp only [Option.some.injEq, Prod.mk.injEq] at g5
          exact ⟨g6, g5.1.symm⟩
        rw [hd, e3]
        refine ⟨i1, fun k B hk => ?_, fun k B hk hl => ?_, fun u k B a b hu hl => ?_, fun hl k B hk => ?_, by rw [AHeap.next_push]; omega⟩
        · rw [AHeap.get_push] at hk
          split at hk
          · rename_i e
            simp only [Option.some.injEq] at hk
            subst e hk
            exact .inr ⟨h + m, by omega, by omega, hat⟩
          · rcases i2 k B hk with h | ⟨u, a, b, c⟩
            · exact .inl h
            · exact .inr ⟨u, a, by omega, c⟩
        · rw [AHeap.get_push, if_neg (by have := hl k B hk; omega)]
          exact i3 k B hk hl
        · rcases Nat.lt_or_ge u (h + m) with hlt | hge
          · have := i4 u k B a hlt hu hl
            rw [AHeap.get_push, if_neg (by have := i5 hl k B this; omega)]
            exact this
          · have : u = h + m := by omega
            subst this
            obtain ⟨rfl, rfl⟩ := huniq k B hu
            rw [AHeap.get_push, if_pos rfl]
        · rw [AHeap.next_push]
          rw [AHeap.get_push] at hk
          split at hk
          · rename_i e; omega
          · have := i5 hl k B hk; omega
      · refine hold ?_ (fun k B ⟨i', o', val, g1, g2, g3, g4, _⟩ => ?_) hd
        · exact came_heap hcame hA hnE
        · rw [h1] at g1
          simp only [Option.some.injEq] at g1; subst g1
          rw [h2] at g2
          simp only [Option.some.injEq] at g2; subst g2
          exact hA g4

end Go.Abs

namespace Go.Abs

variable {P : Program} {callF : CallF} {ops : Array Oper} {C : List Nat} {acts : Nat → AAct} {heaps : Nat → AHeap}

/-! ## Positions -/

theorem Static.inj (st : Static P ops C) {t u i : Nat} (ht : C[t]? = some i) (hu : C[u]? = some i) : t = u := by
  have key : ∀ t u : Nat, u < t → C[t]? = some i → C[u]? = some i → False := by
    intro t u hlt ht hu
    obtain ⟨o, h1, _, _, h4⟩ := st.op t i ht
    exact (pair_info h1 (h4 u i hlt hu)).1 rfl
  rcases Nat.lt_trichotomy t u with h | h | h
  · exact (key u t h hu ht).elim
  · exact h
  · exact (key t u h ht hu).elim

theorem Static.apart (st : Static P ops C) {t u i j d : Nat} {o o' : Oper} (ht : C[t]? = some i) (hu : C[u]? = some j) (ho : ops[i]? = some o) (ho' : ops[j]? = some o') (hd : o.dst = some d) (hd' : o'.dst = some d) : t = u := by
  have key : ∀ (t u i j : Nat) (o o' : Oper), u < t → C[t]? = some i → C[u]? = some j → ops[i]? = some o → ops[j]? = some o' → o.dst = some d → o'.dst = some d → False := by
    intro t u i j o o' hlt ht hu ho ho' hd hd'
    obtain ⟨o1, h1, _, _, h4⟩ := st.op t i ht
    rw [ho] at h1
    simp only [Option.some.injEq] at h1; subst h1
    exact (pair_info ho' (h4 u j hlt hu)).2.1 d hd hd'
  rcases Nat.lt_trichotomy t u with h | h | h
  · exact (key u t j i o' o h hu ht ho' ho hd' hd).elim
  · exact h
  · exact (key t u i j o o' h ht hu ho ho' hd hd').elim

/-- An operation that stands ahead in the order and that the other minds must stand ahead. -/
theorem Static.must (st : Static P ops C) {t u i j : Nat} {o o' : Oper} (hlt : u < t) (ht : C[t]? = some i) (hu : C[u]? = some j) (ho : ops[i]? = some o) (ho' : ops[j]? = some o')
    (h : (isEarly (cls P o'.op) = false ∧ cls P o.op ≠ .P ∧ cls P o.op ≠ .A) ∨ (∃ d, o.dst = some d ∧ d ∈ touches ops o') ∨ (∃ d, o'.dst = some d ∧ d ∈ touches ops o)) : isAnc (ancOf ops) j i = true := by
  obtain ⟨o1, h1, _, _, h4⟩ := st.op t i ht
  rw [ho] at h1
  simp only [Option.some.injEq] at h1; subst h1
  obtain ⟨_, _, h5⟩ := pair_info ho' (h4 u j hlt hu)
  rcases h5 with h5 | ⟨h5, h6, h7⟩
  · exact h5
  · rcases h with ⟨g1, g2, g3⟩ | ⟨d, g1, g2⟩ | ⟨d, g1, g2⟩
    · rcases h5 with h5 | h5 | h5
      · rw [g1] at h5; simp at h5
      · exact absurd h5 g2
      · exact absurd h5 g3
    · exact absurd g2 (h6 d g1)
    · exact absurd g2 (h7 d g1)

/-! ## What holds when some have run -/

structure Inv (P : Program) (ops : Array Oper) (C : List Nat) (acts : Nat → AAct) (heaps : Nat → AHeap) (φ0 : Phi) (w0 : World) (S : Nat → Prop) (h : Nat) (φ : Phi) (G : AHeap) (A : Act) (w : World) : Prop where
  closed : ∀ i o, ops[i]? = some o → S i → ∀ e ∈ o.after.toList, Region.binds .any e = true → S e.on
  hle : h ≤ C.length
  last : h = 0 ∨ ∃ s j o, h = s + 1 ∧ C[s]? = some j ∧ ops[j]? = some o ∧ cls P o.op = .E ∧ wantedA ops (acts s).tmps o.guard = some true ∧ S j
  done : ∀ (t i : Nat) o, C[t]? = some i → ops[i]? = some o → wantedA ops (acts t).tmps o.guard = some true → t < h → cls P o.op = .E ∨ cls P o.op = .A → S i
  later : ∀ (t i : Nat) o, C[t]? = some i → ops[i]? = some o → wantedA ops (acts t).tmps o.guard = some true → h ≤ t → cls P o.op = .E → ¬ S i
  gnext : G.next = (heaps C.length).next
  low : Low (heaps h)
  gget : ∀ k B, G.get k = some B ↔ (heaps h).get k = some B ∨ ∃ u i, h ≤ u ∧ C[u]? = some i ∧ S i ∧ AllocAt P ops C acts heaps u k B
  dom : ∀ k, (heaps 0).next ≤ k → k < (heaps C.length).next → φ k ≠ none → k < (heaps h).next ∨ ∃ u i B, h ≤ u ∧ C[u]? = some i ∧ S i ∧ AllocAt P ops C acts heaps u k B
  rel : Rel φ G w
  step : Step φ0 (heaps 0) w0 φ G w
  size : A.tmps.size = (acts 0).tmps.length
  written : ∀ (t i : Nat) o d, C[t]? = some i → ops[i]? = some o → S i → o.dst = some d → VRel φ (getT (acts (t + 1)).tmps d) (A.tmps.getD d Go.undef)
  unwritten : ∀ d, (∀ (i : Nat) o, ops[i]? = some o → S i → o.dst ≠ some d) → VRel φ (getT (acts 0).tmps d) (A.tmps.getD d Go.undef)
  defers : DsRel φ (acts h).defers A.defers

/-- May i run now? -/
def Ready (S : Nat → Prop) (o : Oper) : Prop := ∀ e ∈ o.after.toList, Region.binds .any e = true → S e.on

section
variable {φ0 φ : Phi} {w0 w : World} {S : Nat → Prop} {h : Nat} {G : AHeap} {A : Act}

theorem Inv.anc (iv : Inv P ops C acts heaps φ0 w0 S h φ G A w) {i j : Nat} {o : Oper} (ho : ops[i]? = some o) (hr : Ready S o) (ha : isAnc (ancOf ops) j i = true) : S j :=
  isAnc_closed iv.closed i i j o (Nat.le_refl _) ho hr ha

/-- A slot that an operation minds that may run now. -/
theorem Inv.slot (tr : Trace callF P ops (ancOf ops) C acts heaps) (st : Static P ops C) (iv : Inv P ops C acts heaps φ0 w0 S h φ G A w) {t i : Nat} {o : Oper} (ht : C[t]? = some i) (ho : ops[i]? = some o) (hS : ¬ S i) (hr : Ready S o) {d : Nat} (hd : d ∈ touches ops o) :
    VRel φ (getT (acts t).tmps d) (A.tmps.getD d Go.undef) := by
  have htl : t < C.length := (List.getElem?_eq_some_iff.1 ht).1
  by_cases hw : ∃ (u j : Nat) (o' : Oper), C[u]? = some j ∧ ops[j]? = some o' ∧ o'.dst = some d
  · obtain ⟨u, j, o', hu, ho', hd'⟩ := hw
    have hul : u < C.length := (List.getElem?_eq_some_iff.1 hu).1
    have uniq : ∀ (s k : Nat) o2, C[s]? = some k → ops[k]? = some o2 → o2.dst = some d → s = u := fun s k o2 a b c => st.apart a hu b ho' c hd'
    have from0 : t ≤ u → getT (acts t).tmps d = getT (acts 0).tmps d := by
      intro htu
      have := tr.get (t := 0) (d := d) t (by omega) (fun s k o2 _ a b c e => by have := uniq s k o2 b c e; omega)
      rwa [Nat.zero_add] at this
    have unw : ¬ S j → VRel φ (getT (acts 0).tmps d) (A.tmps.getD d Go.undef) := by
      intro hn
      refine iv.unwritten d fun k o2 hk hSk hdk => ?_
      obtain ⟨s, hs⟩ := st.all k (Array.getElem?_eq_some_iff.1 hk).1
      have e := uniq s k o2 hs hk hdk
      subst e
      rw [hu] at hs
      simp only [Option.some.injEq] at hs
      subst hs
      exact hn hSk
    rcases Nat.lt_trichotomy u t with hlt | heq | hgt
    · have hSj := iv.anc ho hr (st.must hlt ht hu ho ho' (.inr (.inr ⟨d, hd', hd⟩)))
      have := tr.get (t := u + 1) (d := d) (t - (u + 1)) (by omega) (fun s k o2 a b c e f => by have := uniq s k o2 c e f; omega)
      rw [show u + 1 + (t - (u + 1)) = t by omega] at this
      rw [this]
      exact iv.written u j o' d hu ho' hSj hd'
    · rw [from0 (by omega)]
      subst heq
      rw [ht] at hu
      simp only [Option.some.injEq] at hu; subst hu
      exact unw hS
    · rw [from0 (by omega)]
      refine unw fun hSj => hS ?_
      have ha := st.must hgt hu ht ho' ho (.inr (.inl ⟨d, hd', hd⟩))
      exact iv.anc ho' (iv.closed j o' ho' hSj) ha
  · have hn : ∀ (s k : Nat) o2, C[s]? = some k → ops[k]? = some o2 → o2.dst ≠ some d := fun s k o2 a b c => hw ⟨s, k, o2, a, b, c⟩
    have := tr.get (t := 0) (d := d) t (by omega) (fun s k o2 _ a b c => hn s k o2 b c)
    rw [Nat.zero_add] at this
    rw [this]
    refine iv.unwritten d fun k o2 hk _ => ?_
    obtain ⟨s, hs⟩ := st.all k (Array.getElem?_eq_some_iff.1 hk).1
    exact hn s k o2 hs hk

theorem Inv.glob (iv : Inv P ops C acts heaps φ0 w0 S h φ G A w) (h0 : Good P φ0 (heaps 0) w0) : GlobOk P φ := fun g hg => by
  rw [iv.step.ext g (.inl (Nat.lt_of_le_of_lt hg h0.low))]; exact h0.glob g hg

/-- Between the last call and here no other stands: what is made between is all there. -/
theorem Inv.noE (st : Static P ops C) (iv : Inv P ops C acts heaps φ0 w0 S h φ G A w) {t i : Nat} {o : Oper} (ht : C[t]? = some i) (ho : ops[i]? = some o) (hr : Ready S o) (hc : cls P o.op ≠ .P) (hc' : cls P o.op ≠ .A) : NoE P ops C acts h t := by
  intro u j o' hu hlt hj ho' hw hE
  exact iv.later u j o' hj ho' hw hu hE (iv.anc ho hr (st.must hlt ht hj ho ho' (.inl ⟨by rw [hE]; rfl, hc, hc'⟩)))

theorem Inv.sub (tr : Trace callF P ops (ancOf ops) C acts heaps) (st : Static P ops C) (iv : Inv P ops C acts heaps φ0 w0 S h φ G A w) {t i : Nat} {o : Oper} (ht : C[t]? = some i) (ho : ops[i]? = some o) (hr : Ready S o) (hc : cls P o.op ≠ .P) (hc' : cls P o.op ≠ .A) (hht : h ≤ t) :
    Sub (heaps t) G ∧ Low (heaps t) ∧ (acts t).defers = (acts h).defers ∧ (heaps h).next ≤ (heaps t).next := by
  have htl : t < C.length := (List.getElem?_eq_some_iff.1 ht).1
  have hnE := iv.noE st ht ho hr hc hc'
  obtain ⟨e1, e2, e3, e4, e5, e6⟩ := tr.early (h := h) (t - h) (by omega) (by rw [show h + (t - h) = t by omega]; exact hnE)
  rw [show h + (t - h) = t by omega] at e1 e2 e3 e4 e5 e6
  refine ⟨fun k B hk => (iv.gget k B).2 ?_, e5 iv.low, e1, e6⟩
  rcases e2 k B hk with h1 | ⟨u, h1, h2, h3⟩
  · exact .inl h1
  · right
    obtain ⟨j, o', val, g1, g2, g3, g4, g5, g6⟩ := h3
    exact ⟨u, j, h1, g1, iv.anc ho hr (st.must h2 ht g1 ho g2 (.inl ⟨by rw [g4]; rfl, hc, hc'⟩)), j, o', val, g1, g2, g3, g4, g5, g6⟩

theorem Inv.sub_h (iv : Inv P ops C acts heaps φ0 w0 S h φ G A w) : Sub (heaps h) G := fun k B hk => (iv.gget k B).2 (.inl hk)

/-- The frame that knows the slots that an operation minds. -/
noncomputable def maskT (l : List Value) (keep : List Nat) : List Value := l.mapIdx (fun d v => open Classical in if d ∈ keep then v else undef)

theorem maskT_get (l : List Value) (keep : List Nat) (d : Nat) : (d ∈ keep → getT (maskT l keep) d = getT l d) ∧ (d ∉ keep → getT (maskT l keep) d = undef) := by
  unfold maskT
  rw [getT_eq, getT_eq]
  simp only [List.getD, List.getElem?_mapIdx]
  constructor
  · intro h
    cases hx : l[d]? with
    | none => rfl
    | some v => simp [h]
  · intro h
    cases hx : l[d]? with
    | none => rfl
    | some v => simp [h]
theorem maskT_len (l : List Value) (keep : List Nat) : (maskT l keep).length = l.length := by simp [maskT]

noncomputable def maskA (ops : Array Oper) (o : Oper) (a : AAct) (ds : List (FuncId × List Value)) : AAct := ⟨maskT a.tmps (touches ops o), ds⟩

theorem mask_eval {o : Oper} {a : AAct} {ds : List (FuncId × List Value)} {x : Operand} (hx : x ∈ o.op.operands.toList) : (maskA ops o a ds).eval P x = a.eval P x := by
  cases x with
  | tmp t =>
    refine (maskT_get _ _ t).1 ?_
    simp only [touches, List.mem_append, List.mem_filterMap]
    exact .inl (.inr ⟨_, hx, rfl⟩)
  | const v => rfl
  | global g => rfl
  | func f => rfl

theorem mask_wanted {o : Oper} {a : AAct} {ds : List (FuncId × List Value)} : wantedA ops (maskA ops o a ds).tmps o.guard = wantedA ops a.tmps o.guard := by
  unfold wantedA
  split
  · rfl
  · rename_i j want hg
    split
    · rename_i o' ho
      split
      · rename_i d hd
        have : getT (maskA ops o a ds).tmps d = getT a.tmps d := by
          refine (maskT_get _ _ d).1 ?_
          simp only [touches, hg, List.mem_append]
          right
          rw [ho]; simp [hd]
        rw [this]
      · rfl
    · rfl

theorem Inv.mask (tr : Trace callF P ops (ancOf ops) C acts heaps) (st : Static P ops C) (iv : Inv P ops C acts heaps φ0 w0 S h φ G A w) {t i : Nat} {o : Oper} (ht : C[t]? = some i) (ho : ops[i]? = some o) (hS : ¬ S i) (hr : Ready S o) :
    ActRel φ (maskA ops o (acts t) (acts h).defers) A := by
  have htl : t < C.length := (List.getElem?_eq_some_iff.1 ht).1
  refine ⟨by rw [iv.size]; show _ = (maskT (acts t).tmps _).length; rw [maskT_len]; exact (tr.len t (by omega)).symm, fun d => ?_, iv.defers⟩
  by_cases hd : d ∈ touches ops o
  · rw [show getT (maskA ops o (acts t) (acts h).defers).tmps d = getT (acts t).tmps d from (maskT_get _ _ d).1 hd]
    exact iv.slot tr st ht ho hS hr hd
  · rw [show getT (maskA ops o (acts t) (acts h).defers).tmps d = undef from (maskT_get _ _ d).2 hd]
    exact .undef _

/-- When one more has run: the slots. -/
theorem Inv.slots (st : Static P ops C) (iv : Inv P ops C acts heaps φ0 w0 S h φ G A w) {t i : Nat} {o : Oper} (ht : C[t]? = some i) (ho : ops[i]? = some o) {φ' : Phi} {A' : Act} (hle : Le φ φ')
    (hk : Kept A A' o.dst) (hd : ∀ d, o.dst = some d → VRel φ' (getT (acts (t + 1)).tmps d) (A'.tmps.getD d Go.undef)) :
    (∀ (u j : Nat) o' d, C[u]? = some j → ops[j]? = some o' → (j = i ∨ S j) → o'.dst = some d → VRel φ' (getT (acts (u + 1)).tmps d) (A'.tmps.getD d Go.undef)) ∧
    (∀ d, (∀ (j : Nat) o', ops[j]? = some o' → (j = i ∨ S j) → o'.dst ≠ some d) → VRel φ' (getT (acts 0).tmps d) (A'.tmps.getD d Go.undef)) := by
  refine ⟨fun u j o' d hu ho' hj hd' => ?_, fun d hn => ?_⟩
  · by_cases hji : j = i
    · subst hji
      have := st.inj hu ht
      subst this
      rw [ho] at ho'
      simp only [Option.some.injEq] at ho'; subst ho'
      exact hd d hd'
    · have hSj : S j := hj.resolve_left hji
      have hne : o.dst ≠ some d := by
        intro e
        have := st.apart hu ht ho' ho hd' e
        subst this
        rw [hu] at ht
        simp only [Option.some.injEq] at ht
        exact hji ht
      rw [hk d hne]
      exact (iv.written u j o' d hu ho' hSj hd').mono hle
  · rw [hk d (hn i o ho (.inl rfl))]
    exact (iv.unwritten d fun j o' hj hSj => hn j o' hj (.inr hSj)).mono hle

end

end Go.Abs

namespace Go.Abs

variable {P : Program} {callF : CallF} {ops : Array Oper} {C : List Nat} {acts : Nat → AAct} {heaps : Nat → AHeap}
variable {φ0 φ : Phi} {w0 w : World} {S : Nat → Prop} {h : Nat} {G : AHeap} {A : Act}

/-- How the one order's trace went at an operation that was wanted. -/
inductive Went (callF : CallF) (P : Program) (ops : Array Oper) (acts : Nat → AAct) (heaps : Nat → AHeap) (t : Nat) (o : Oper) : Prop
  | off (hw : wantedA ops (acts t).tmps o.guard = some false) (ha : acts (t + 1) = (acts t).put o.dst undef) (hh : heaps (t + 1) = heaps t)
  | on (hw : wantedA ops (acts t).tmps o.guard = some true) (hc : Came callF P o.op o.dst (acts t) (heaps t) (acts (t + 1)) (heaps (t + 1)))

theorem place_went (tr : Trace callF P ops (ancOf ops) C acts heaps) {t i : Nat} {o : Oper} (ht : C[t]? = some i) (ho : ops[i]? = some o) : Went callF P ops acts heaps t o := by
  obtain ⟨o', h1, h2⟩ := tr.step t i ht
  rw [ho] at h1
  simp only [Option.some.injEq] at h1; subst h1
  rcases h2 with ⟨a, b, c⟩ | ⟨a, b⟩
  · exact .off a b c
  · exact .on a b

/-- One more has run that makes nothing, calls nothing and writes nothing. -/
theorem Inv.quiet (st : Static P ops C) (iv : Inv P ops C acts heaps φ0 w0 S h φ G A w) {t i : Nat} {o : Oper} (ht : C[t]? = some i) (ho : ops[i]? = some o) (hr : Ready S o)
    (hq : wantedA ops (acts t).tmps o.guard = some true → cls P o.op ≠ .E ∧ cls P o.op ≠ .A) {A' : Act} {w' : World} (hrel : Rel φ G w') (hstep : Step φ0 (heaps 0) w0 φ G w') (hsz : A'.tmps.size = (acts 0).tmps.length)
    (hk : Kept A A' o.dst) (hd : ∀ d, o.dst = some d → VRel φ (getT (acts (t + 1)).tmps d) (A'.tmps.getD d Go.undef)) (hdf : DsRel φ (acts h).defers A'.defers) :
    Inv P ops C acts heaps φ0 w0 (fun j => j = i ∨ S j) h φ G A' w' := by
  obtain ⟨s1, s2⟩ := iv.slots st ht ho (fun _ _ h => h) hk hd
  have hat : ∀ {u j k : Nat} {B : Blk}, C[u]? = some j → (j = i ∨ S j) → AllocAt P ops C acts heaps u k B → S j := by
    intro u j k B hj hS ⟨j', o', val, g1, g2, g3, g4, _⟩
    rcases hS with rfl | hS
    · have := st.inj hj ht
      subst this
      rw [hj] at g1
      simp only [Option.some.injEq] at g1; subst g1
      rw [ho] at g2
      simp only [Option.some.injEq] at g2; subst g2
      exact absurd g4 (hq g3).2
    · exact hS
  exact {
    closed := fun j o' ho' hj e he hb => by
      rcases hj with rfl | hj
      · rw [ho] at ho'
        simp only [Option.some.injEq] at ho'; subst ho'
        exact .inr (hr e he hb)
      · exact .inr (iv.closed j o' ho' hj e he hb)
    hle := iv.hle
    last := by
      rcases iv.last with h0 | ⟨s, j, o', a, b, c, d, e, f⟩
      · exact .inl h0
      · exact .inr ⟨s, j, o', a, b, c, d, e, .inr f⟩
    done := fun u j o' a b c d e => .inr (iv.done u j o' a b c d e)
    later := fun u j o' a b c d e hj => by
      rcases hj with rfl | hj
      · have := st.inj a ht
        subst this
        rw [ho] at b
        simp only [Option.some.injEq] at b; subst b
        exact absurd e (hq c).1
      · exact iv.later u j o' a b c d e hj
    gnext := iv.gnext
    low := iv.low
    gget := fun k B => (iv.gget k B).trans ⟨fun h => h.imp id fun ⟨u, j, a, b, c, d⟩ => ⟨u, j, a, b, .inr c, d⟩, fun h => h.imp id fun ⟨u, j, a, b, c, d⟩ => ⟨u, j, a, b, hat b c d, d⟩⟩
    dom := fun k a b c => (iv.dom k a b c).imp id fun ⟨u, j, B, a, b, c, d⟩ => ⟨u, j, B, a, b, .inr c, d⟩
    rel := hrel
    step := hstep
    size := hsz
    written := s1
    unwritten := s2
    defers := hdf }

/-- A part of the heap in which nothing changes. -/
theorem Inv.look (st : Static P ops C) (iv : Inv P ops C acts heaps φ0 w0 S h φ G A w) {t i : Nat} {o : Oper} (ht : C[t]? = some i) (ho : ops[i]? = some o) (hr : Ready S o)
    (hq : cls P o.op ≠ .E ∧ cls P o.op ≠ .A) {L : AHeap} (hsub : Sub L G) (hlow : Low L) (h1 : (heaps 0).next ≤ L.next) (h2 : L.next ≤ G.next) {v : Value} (hact : acts (t + 1) = (acts t).put o.dst v)
    (hlen : (acts t).tmps.length = (acts 0).tmps.length)
    {φ' : Phi} {A' : Act} {w' : World} (hL : Rel φ' L w') (hs : Step φ L w φ' L w') (hA : ActRel φ' ((maskA ops o (acts t) (acts h).defers).put o.dst v) A') (hk : Kept A A' o.dst) :
    Inv P ops C acts heaps φ0 w0 (fun j => j = i ∨ S j) h φ G A' w' := by
  have e : φ' = φ := funext fun k => hs.ext k (Nat.lt_or_ge k L.next)
  subst e
  have hm := merge iv.rel hsub hlow hs hL (fun k a b => absurd b (by omega)) (G' := G) (fun k B hk => by
    cases hl : L.get k with
    | none => exact .inr ⟨hk, rfl, Nat.lt_or_ge k L.next⟩
    | some B' => rw [hsub k B' hl] at hk; simp only [Option.some.injEq] at hk; subst hk; exact .inl rfl) iv.rel.lt
  have hml : (maskA ops o (acts t) (acts h).defers).tmps.length = (acts t).tmps.length := maskT_len _ _
  refine iv.quiet st ht ho hr (fun _ => hq) hm.rel (hm.step iv.step hs rfl h1 h2) ?_ hk (fun d hd => ?_) ?_
  · rw [hA.len, put_len, hml, hlen]
  · rw [hact, put_same (acts t) (maskA ops o (acts t) (acts h).defers) o.dst v hd hml.symm]
    exact hA.tmps d
  · have := hA.defers
    rwa [put_defers] at this

/-- One more runs. -/
theorem draw_step (hz : ZerosFlat P) (hcall : CallOk P callF) (hg : Grows callF) (tr : Trace callF P ops (ancOf ops) C acts heaps) (st : Static P ops C) (h0 : Good P φ0 (heaps 0) w0)
    (iv : Inv P ops C acts heaps φ0 w0 S h φ G A w) {i : Nat} {o : Oper} (ho : ops[i]? = some o) (hS : ¬ S i) (hr : Ready S o) (K : Act → World → Prop) (Q : Exit → Act → World → Prop)
    (hK : ∀ h' φ' G' A' w', Inv P ops C acts heaps φ0 w0 (fun j => j = i ∨ S j) h' φ' G' A' w' → K A' w') : wpOp P ops Q i K A w := by
  obtain ⟨t, ht⟩ := st.all i (Array.getElem?_eq_some_iff.1 ho).1
  have htl : t < C.length := (List.getElem?_eq_some_iff.1 ht).1
  have hmask := iv.mask tr st ht ho hS hr
  have hlen := tr.len t (by omega)
  have hml : (maskA ops o (acts t) (acts h).defers).tmps.length = (acts t).tmps.length := maskT_len _ _
  have hev : ∀ x ∈ o.op.operands.toList, (acts t).eval P x = (maskA ops o (acts t) (acts h).defers).eval P x := fun x hx => (mask_eval hx).symm
  have hglob := iv.glob h0
  have hn0 : ∀ u, u ≤ C.length → (heaps 0).next ≤ (heaps u).next := fun u hu => tr.next_le hg (Nat.zero_le _) hu
  have hnG : ∀ u, u ≤ C.length → (heaps u).next ≤ G.next := fun u hu => by rw [iv.gnext]; exact tr.next_le hg hu (Nat.le_refl _)
  have hgood : ∀ L : AHeap, Sub L G → Low L → (heaps 0).next ≤ L.next → Good P φ L w := fun L a b c => ⟨iv.rel.sub_heap a b, hglob, Nat.lt_of_lt_of_le h0.low c⟩
  have htt := hn0 t (by omega)
  have htG := hnG (t + 1) (by omega)
  have hhG := hnG h iv.hle
  have hh0 := hn0 h iv.hle
  unfold wpOp
  simp only [ho]
  cases place_went tr ht ho with
  | off hw ha hh =>
    rw [wanted_rel hmask o (mask_wanted.trans hw)]
    simp only [Bool.false_eq_true, if_false]
    refine hK h φ G _ w (iv.quiet st ht ho hr (fun hw' => by rw [hw] at hw'; simp at hw') iv.rel iv.step ?_ (kept_put _ _ _) (fun d hd => ?_) ?_)
    · rw [← iv.size]; cases o.dst <;> simp [Act.put]
    · rw [ha, put_same (acts t) (maskA ops o (acts t) (acts h).defers) o.dst undef hd hml.symm]
      exact (put_rel hmask o.dst (.undef Go.undef)).tmps d
    · have : (A.put o.dst Go.undef).defers = A.defers := by cases o.dst <;> rfl
      rw [this]; exact iv.defers
  | on hw hc =>
    rw [wanted_rel hmask o (mask_wanted.trans hw)]
    simp only [if_true]
    left
    by_cases hE : cls P o.op = .E
    · -- a call or a write
      have hht : h ≤ t := by
        rcases Nat.lt_or_ge t h with hlt | hge
        · exact absurd (iv.done t i o ht ho hw hlt (.inl hE)) hS
        · exact hge
      obtain ⟨hsub, hlow, hdef, hnx⟩ := iv.sub tr st ht ho hr (by rw [hE]; simp) (by rw [hE]; simp) hht
      have hn1 := tr.next_le hg (t := t) (u := t + 1) (by omega) (by omega)
      have hclsT : ∀ {k : Nat} {B : Blk}, ¬ AllocAt P ops C acts heaps t k B := by
        intro k B ⟨j', o', val, g1, g2, g3, g4, _⟩
        rw [ht] at g1
        simp only [Option.some.injEq] at g1; subst g1
        rw [ho] at g2
        simp only [Option.some.injEq] at g2; subst g2
        rw [hE] at g4; simp at g4
      -- what was made early lies behind
      have hpos : ∀ {u k : Nat} {B : Blk}, AllocAt P ops C acts heaps u k B → (heaps t).next ≤ k → t + 1 ≤ u ∧ (heaps (t + 1)).next ≤ k := by
        intro u k B hu hk
        obtain ⟨e1, e2, e3, _⟩ := tr.alloc_next hu
        rcases Nat.lt_trichotomy u t with hlt | heq | hgt
        · have := tr.next_le hg (t := u + 1) (u := t) (by omega) (by omega)
          omega
        · subst heq; exact absurd hu hclsT
        · have := tr.next_le hg (t := t + 1) (u := u) (by omega) (by omega)
          exact ⟨hgt, by omega⟩
      have hpos' : ∀ {u k : Nat} {B : Blk}, AllocAt P ops C acts heaps u k B → t + 1 ≤ u → (heaps (t + 1)).next ≤ k := by
        intro u k B hu hlt
        obtain ⟨e1, e2, e3, _⟩ := tr.alloc_next hu
        have := tr.next_le hg (t := t + 1) (u := u) hlt (by omega)
        omega
      have hfree : Free φ (heaps t).next (heaps (t + 1)).next := by
        intro k a b
        cases hk : φ k with
        | none => rfl
        | some x =>
          rcases iv.dom k (by omega) (by rw [← iv.gnext]; omega) (by rw [hk]; simp) with h1 | ⟨u, j, B, h1, h2, h3, h4⟩
          · omega
          · have := (hpos h4 a).2; omega
      -- the operation on the frame that knows what it minds
      have hcame : ∃ am', Came callF P o.op o.dst (maskA ops o (acts t) (acts h).defers) (heaps t) am' (heaps (t + 1)) ∧ am'.tmps.length = (acts t).tmps.length ∧ (∀ d, o.dst = some d → getT am'.tmps d = getT (acts (t + 1)).tmps d) ∧ am'.defers = (acts (t + 1)).defers := by
        generalize hb : acts (t + 1) = b at hc
        generalize hb2 : heaps (t + 1) = b2 at hc
        cases hc with
        | pure hc' _ => rw [hE] at hc'; simp at hc'
        | read hc' _ => rw [hE] at hc'; simp at hc'
        | alloc hc' _ => rw [hE] at hc'; simp at hc'
        | eff hc' hd he =>
          rw [eff_congr o.op _ hev] at he
          exact ⟨_, .eff hc' hd he, by rw [put_len, hml], fun d hd => put_same _ _ _ _ hd hml, by rw [put_defers, put_defers]; exact hdef.symm⟩
        | defer hc' ho' he =>
          rename_i c x
          have hev2 : deferA P (maskA ops o (acts t) (acts h).defers) c = some x := by
            rw [← he]
            unfold deferA
            have hev' : ∀ y ∈ c.operands.toList, (acts t).eval P y = (maskA ops o (acts t) (acts h).defers).eval P y := fun y hy => hev y (by rw [ho']; exact hy)
            obtain ⟨a1, a2⟩ := call_ops hev'
            split
            · rename_i f hf; rw [a1, a2 f hf]
            · rfl
          refine ⟨_, .defer hc' ho' hev2, by rw [put_len]; exact hml, fun d hd => put_same ⟨_, _⟩ ⟨_, _⟩ _ _ hd hml, ?_⟩
          rw [put_defers, put_defers]
          show x :: (acts h).defers = x :: (acts t).defers
          rw [hdef]
      obtain ⟨am', hcm, hal, had, hadf⟩ := hcame
      refine came_kept hz hcall hcm (hgood _ hsub hlow htt) hmask hfree K Q fun φ' A' w' hG' hs' hA' hk' => ?_
      obtain ⟨G', hgn, hgg⟩ := heap_join (heaps (t + 1)) G (heaps (t + 1)).next
      have hle := hs'.le hfree
      have hm := merge iv.rel hsub hlow hs' hG'.rel hfree (G' := G') (fun k B hk => by
        rw [hgg] at hk
        split at hk
        · exact .inl hk
        · rename_i hge
          refine .inr ⟨hk, ?_, .inr (by omega)⟩
          cases hl : (heaps t).get k with
          | none => rfl
          | some B' => have := hlow k B' hl; omega) (fun k B hk => by
        rw [hgn]
        rw [hgg] at hk
        split at hk
        · omega
        · exact iv.rel.lt k B hk)
      obtain ⟨s1, s2⟩ := iv.slots st ht ho hle hk' (fun d hd => by rw [← had d hd]; exact hA'.tmps d)
      refine hK (t + 1) φ' G' A' w' {
        closed := fun j o' ho' hj e he hb => ?_
        hle := by omega
        last := .inr ⟨t, i, o, rfl, ht, ho, hE, hw, .inl rfl⟩
        done := fun u j o' a b c d e => ?_
        later := fun u j o' a b c d e hj => ?_
        gnext := hgn.trans iv.gnext
        low := hG'.rel.lt
        gget := fun k B => ?_
        dom := fun k a b c => ?_
        rel := hm.rel
        step := hm.step iv.step hs' hgn htt htG
        size := by rw [hA'.len, hal, hlen]
        written := s1
        unwritten := s2
        defers := by rw [← hadf]; exact hA'.defers }
      · rcases hj with rfl | hj
        · rw [ho] at ho'
          simp only [Option.some.injEq] at ho'; subst ho'
          exact .inr (hr e he hb)
        · exact .inr (iv.closed j o' ho' hj e he hb)
      · rcases Nat.lt_or_ge u h with hlt | hge
        · exact .inr (iv.done u j o' a b c hlt e)
        · rcases Nat.lt_or_ge u t with hlt | hge'
          · refine .inr (iv.anc ho hr (st.must hlt ht a ho b (.inl ⟨?_, by rw [hE]; simp, by rw [hE]; simp⟩)))
            rcases e with e | e <;> rw [e] <;> rfl
          · have : u = t := by omega
            subst this
            rw [ht] at a
            simp only [Option.some.injEq] at a
            exact .inl a.symm
      · rcases hj with rfl | hj
        · have := st.inj a ht; omega
        · exact iv.later u j o' a b c (by omega) e hj
      · rw [hgg]
        constructor
        · intro hk
          split at hk
          · exact .inl hk
          · rename_i hge
            rcases (iv.gget k B).1 hk with h1 | ⟨u, j, h1, h2, h3, h4⟩
            · have := iv.low k B h1; omega
            · exact .inr ⟨u, j, (hpos h4 (by omega)).1, h2, .inr h3, h4⟩
        · intro hk
          rcases hk with h1 | ⟨u, j, h1, h2, h3, h4⟩
          · rw [if_pos (hG'.rel.lt k B h1)]; exact h1
          · have := hpos' h4 h1
            rw [if_neg (by omega)]
            refine (iv.gget k B).2 (.inr ⟨u, j, by omega, h2, ?_, h4⟩)
            rcases h3 with rfl | h3
            · have := st.inj h2 ht; omega
            · exact h3
      · rcases Nat.lt_or_ge k (heaps (t + 1)).next with hlt | hge
        · exact .inl hlt
        · rw [hs'.ext k (.inr hge)] at c
          rcases iv.dom k a b c with h1 | ⟨u, j, B, h1, h2, h3, h4⟩
          · omega
          · exact .inr ⟨u, j, B, (hpos h4 (by omega)).1, h2, .inr h3, h4⟩
    · by_cases hA : cls P o.op = .A
      · -- something is made
        have hht : h ≤ t := by
          rcases Nat.lt_or_ge t h with hlt | hge
          · exact absurd (iv.done t i o ht ho hw hlt (.inr hA)) hS
          · exact hge
        obtain ⟨B, val, e1, e2, e3⟩ := place_alloc (.inr ⟨hw, hc⟩) hw hA
        have hat : AllocAt P ops C acts heaps t (heaps t).next B := ⟨i, o, val, ht, ho, hw, hA, e1, rfl⟩
        have hnx := (tr.alloc_next hat).1
        have hhn : (heaps h).next ≤ (heaps t).next := tr.next_le hg hht (by omega)
        have huniq : ∀ {u : Nat} {B' : Blk}, AllocAt P ops C acts heaps u (heaps t).next B' → u = t := by
          intro u B' hu
          obtain ⟨g1, g2, g3, _⟩ := tr.alloc_next hu
          rcases Nat.lt_trichotomy u t with hlt | heq | hgt
          · have := tr.next_le hg (t := u + 1) (u := t) (by omega) (by omega); omega
          · exact heq
          · have := tr.next_le hg (t := t + 1) (u := u) (by omega) (by omega); omega
        have hatB : ∀ {k : Nat} {B' : Blk}, AllocAt P ops C acts heaps t k B' → k = (heaps t).next ∧ B' = B := by
          intro k B' ⟨j', o', val', g1, g2, g3, g4, g5, g6⟩
          rw [ht] at g1
          simp only [Option.some.injEq] at g1; subst g1
          rw [ho] at g2
          simp only [Option.some.injEq] at g2; subst g2
          rw [e1] at g5
          simp only [Option.some.injEq, Prod.mk.injEq] at g5
          exact ⟨g6, g5.1.symm⟩
        have hnone : φ (heaps t).next = none := by
          cases hk : φ (heaps t).next with
          | none => rfl
          | some x =>
            rcases iv.dom _ htt (by rw [← iv.gnext]; omega) (by rw [hk]; simp) with h1 | ⟨u, j, B', h1, h2, h3, h4⟩
            · omega
            · have := huniq h4
              subst this
              rw [ht] at h2
              simp only [Option.some.injEq] at h2; subst h2
              exact absurd h3 hS
        have hsubE : Sub ⟨(heaps t).next, .e⟩ G := fun k B' hk => by simp [AHeap.get, Tr.get_e] at hk
        have hlowE : Low ⟨(heaps t).next, .e⟩ := fun k B' hk => by simp [AHeap.get, Tr.get_e] at hk
        have hfree : Free φ (⟨(heaps t).next, .e⟩ : AHeap).next ((⟨(heaps t).next, .e⟩ : AHeap).push B).next := by
          intro k a b
          rw [AHeap.next_push] at b
          have : k = (heaps t).next := by simp only at a b; omega
          rw [this]; exact hnone
        have e1' := e1
        rw [alloc_congr o.op hev] at e1'
        refine came_kept hz hcall (Came.alloc (callF := callF) (H := ⟨(heaps t).next, .e⟩) (dst := o.dst) hA e1') (hgood _ hsubE hlowE htt) hmask hfree K Q fun φ' A' w' hG' hs' hA' hk' => ?_
        have hle := hs'.le hfree
        have hgetG : ∀ k, (G.set (heaps t).next (some B)).get k = if k = (heaps t).next then some B else G.get k := fun k => AHeap.get_set _ _ _ _
        have hm := merge iv.rel hsubE hlowE hs' hG'.rel hfree (G' := G.set (heaps t).next (some B)) (fun k B' hk => by
          rw [hgetG] at hk
          rw [AHeap.get_push]
          split at hk
          · rename_i e; rw [if_pos e]; exact .inl hk
          · rename_i e
            refine .inr ⟨hk, by simp [AHeap.get, Tr.get_e], ?_⟩
            rw [AHeap.next_push]
            simp only
            omega) (fun k B' hk => by
          rw [AHeap.next_set]
          rw [hgetG] at hk
          split at hk
          · omega
          · exact iv.rel.lt k B' hk)
        obtain ⟨s1, s2⟩ := iv.slots st ht ho hle hk' (fun d hd => by
          rw [e2, put_same (acts t) (maskA ops o (acts t) (acts h).defers) o.dst _ hd hml.symm]
          exact hA'.tmps d)
        refine hK h φ' (G.set (heaps t).next (some B)) A' w' {
          closed := fun j o' ho' hj e he hb => ?_
          hle := iv.hle
          last := ?_
          done := fun u j o' a b c d e => .inr (iv.done u j o' a b c d e)
          later := fun u j o' a b c d e hj => ?_
          gnext := iv.gnext
          low := iv.low
          gget := fun k B' => ?_
          dom := fun k a b c => ?_
          rel := hm.rel
          step := hm.step iv.step hs' rfl htt (by rw [AHeap.next_push]; simp only; omega)
          size := by rw [hA'.len, put_len, hml, hlen]
          written := s1
          unwritten := s2
          defers := by
            have := hA'.defers
            rw [put_defers] at this
            exact this }
        · rcases hj with rfl | hj
          · rw [ho] at ho'
            simp only [Option.some.injEq] at ho'; subst ho'
            exact .inr (hr e he hb)
          · exact .inr (iv.closed j o' ho' hj e he hb)
        · rcases iv.last with g0 | ⟨s, j, o', a, b, c, d, e, f⟩
          · exact .inl g0
          · exact .inr ⟨s, j, o', a, b, c, d, e, .inr f⟩
        · rcases hj with rfl | hj
          · have := st.inj a ht
            subst this
            rw [ho] at b
            simp only [Option.some.injEq] at b; subst b
            exact hE e
          · exact iv.later u j o' a b c d e hj
        · rw [hgetG]
          constructor
          · intro hk
            split at hk
            · rename_i e
              simp only [Option.some.injEq] at hk
              subst e hk
              exact .inr ⟨t, i, hht, ht, .inl rfl, hat⟩
            · exact ((iv.gget k B').1 hk).imp id fun ⟨u, j, a, b, c, d⟩ => ⟨u, j, a, b, .inr c, d⟩
          · intro hk
            rcases hk with h1 | ⟨u, j, h1, h2, h3, h4⟩
            · have := iv.low k B' h1
              rw [if_neg (by omega)]
              exact (iv.gget k B').2 (.inl h1)
            · rcases h3 with rfl | h3
              · have := st.inj h2 ht
                subst this
                obtain ⟨rfl, rfl⟩ := hatB h4
                rw [if_pos rfl]
              · have hne : k ≠ (heaps t).next := by
                  intro e
                  subst e
                  have := huniq h4
                  subst this
                  rw [ht] at h2
                  simp only [Option.some.injEq] at h2; subst h2
                  exact hS h3
                rw [if_neg hne]
                exact (iv.gget k B').2 (.inr ⟨u, j, h1, h2, h3, h4⟩)
        · by_cases hk : k = (heaps t).next
          · subst hk; exact .inr ⟨t, i, B, hht, ht, .inl rfl, hat⟩
          · rw [hs'.ext k (by rw [AHeap.next_push]; simp only; omega)] at c
            exact (iv.dom k a b c).imp id fun ⟨u, j, B', a, b, c, d⟩ => ⟨u, j, B', a, b, .inr c, d⟩
      · -- something is reckoned or read
        generalize hb : acts (t + 1) = b at hc
        generalize hb2 : heaps (t + 1) = b2 at hc
        cases hc with
        | alloc hc' _ => exact absurd hc' hA
        | eff hc' _ _ => exact absurd hc' hE
        | defer hc' _ _ => exact absurd hc' hE
        | pure hc' he =>
          rw [pure_congr o.op hev] at he
          exact came_kept hz hcall (Came.pure (callF := callF) (H := heaps h) (dst := o.dst) hc' he) (hgood _ iv.sub_h iv.low hh0) hmask (fun k a b => absurd b (by omega)) K Q fun φ' A' w' hG' hs' hA' hk' =>
            hK h φ G A' w' (iv.look st ht ho hr ⟨hE, hA⟩ iv.sub_h iv.low hh0 hhG hb hlen hG'.rel hs' hA' hk')
        | read hc' he =>
          have hL : ∃ L, Sub L G ∧ Low L ∧ (heaps 0).next ≤ L.next ∧ L.next ≤ G.next ∧ readOp P o.op ((acts t).eval P) L = readOp P o.op ((acts t).eval P) (heaps t) := by
            rcases Nat.lt_or_ge t h with hlt | hge
            · refine ⟨heaps h, iv.sub_h, iv.low, hh0, hhG, ?_⟩
              rcases iv.last with g0 | ⟨s, j, o', g1, g2, g3, g4, g5, g6⟩
              · omega
              · subst g1
                have hne : t ≠ s := by
                  intro e
                  subst e
                  rw [ht] at g2
                  simp only [Option.some.injEq] at g2; subst g2
                  exact hS g6
                refine tr.again t s i j o o' (by omega) ht g2 ho g3 hc' g4 hw g5 ?_
                cases hia : isAnc (ancOf ops) i j with
                | false => rfl
                | true => exact absurd (iv.anc g3 (iv.closed j o' g3 g6) hia) hS
            · obtain ⟨a, b, _, _⟩ := iv.sub tr st ht ho hr (by rw [hc']; simp) (by rw [hc']; simp) hge
              exact ⟨heaps t, a, b, htt, hnG t (by omega), rfl⟩
          obtain ⟨L, l1, l2, l3, l4, l5⟩ := hL
          rw [← l5, read_congr o.op L hev] at he
          exact came_kept hz hcall (Came.read (callF := callF) (H := L) (dst := o.dst) hc' he) (hgood _ l1 l2 l3) hmask (fun k a b => absurd b (by omega)) K Q fun φ' A' w' hG' hs' hA' hk' =>
            hK h φ G A' w' (iv.look st ht ho hr ⟨hE, hA⟩ l1 l2 l3 l4 hb hlen hG'.rel hs' hA' hk')

/-- All have run. -/
theorem Inv.all (tr : Trace callF P ops (ancOf ops) C acts heaps) (st : Static P ops C) (h0 : Good P φ0 (heaps 0) w0) (hg : Grows callF)
    (iv : Inv P ops C acts heaps φ0 w0 S h φ G A w) (hS : ∀ i, i < ops.size → S i) (hC : ∀ (t i : Nat), C[t]? = some i → i < ops.size) :
    Good P φ (heaps C.length) w ∧ Step φ0 (heaps 0) w0 φ (heaps C.length) w ∧ ActRel φ (acts C.length) A := by
  have hnE : NoE P ops C acts h C.length := fun u i o a b c d e f => iv.later u i o c d e a f (hS i (hC u i c))
  have hle := iv.hle
  obtain ⟨e1, e2, e3, e4, e5, e6⟩ := tr.early (h := h) (C.length - h) (by omega) (by rw [show h + (C.length - h) = C.length by omega]; exact hnE)
  rw [show h + (C.length - h) = C.length by omega] at e1 e2 e3 e4 e5 e6
  have hsub : Sub (heaps C.length) G := fun k B hk => (iv.gget k B).2 (by
    rcases e2 k B hk with h1 | ⟨u, h1, h2, h3⟩
    · exact .inl h1
    · obtain ⟨i, o, val, g1, g2⟩ := h3
      exact .inr ⟨u, i, h1, g1, hS i (hC u i g1), i, o, val, g1, g2⟩)
  have hn := tr.next_le hg (Nat.zero_le C.length) (Nat.le_refl _)
  refine ⟨⟨iv.rel.sub_heap hsub (e5 iv.low), iv.glob h0, Nat.lt_of_lt_of_le h0.low hn⟩, ⟨fun i hi => iv.step.ext i (by rw [iv.gnext]; exact hi), hn, iv.step.size, fun b hb hi => ?_, iv.step.os, iv.step.out, iv.step.tape, fun k B hk hr => iv.step.ro k B (hsub k B hk) hr⟩,
    ⟨?_, fun d => ?_, ?_⟩⟩
  · obtain ⟨a, b⟩ := iv.step.keep b hb hi
    exact ⟨a, fun h => b (h.up hsub)⟩
  · rw [iv.size]; exact (tr.len _ (Nat.le_refl _)).symm
  · by_cases hw : ∃ (u j : Nat) (o' : Oper), C[u]? = some j ∧ ops[j]? = some o' ∧ o'.dst = some d
    · obtain ⟨u, j, o', hu, ho', hd'⟩ := hw
      have hul : u < C.length := (List.getElem?_eq_some_iff.1 hu).1
      have := tr.get (t := u + 1) (d := d) (C.length - (u + 1)) (by omega) (fun s k o2 a b c e f => by have := st.apart hu c ho' e hd' f; omega)
      rw [show u + 1 + (C.length - (u + 1)) = C.length by omega] at this
      rw [this]
      exact iv.written u j o' d hu ho' (hS j (hC u j hu)) hd'
    · have := tr.get (t := 0) (d := d) C.length (by omega) (fun s k o2 _ a b c e => hw ⟨s, k, o2, b, c, e⟩)
      rw [Nat.zero_add] at this
      rw [this]
      refine iv.unwritten d fun k o2 hk _ e => ?_
      obtain ⟨s, hs⟩ := st.all k (Array.getElem?_eq_some_iff.1 hk).1
      exact hw ⟨s, k, o2, hs, hk, e⟩
  · rw [e1]; exact iv.defers

/-- Any order. -/
theorem draw_any (hz : ZerosFlat P) (hcall : CallOk P callF) (hg : Grows callF) (tr : Trace callF P ops (ancOf ops) C acts heaps) (st : Static P ops C) (h0 : Good P φ0 (heaps 0) w0) (Q : Exit → Act → World → Prop)
    (hQ : Then P φ0 (heaps 0) w0 (acts C.length) (heaps C.length) (Q .normal)) :
    ∀ (fuel : Nat) (l : List Nat) (listed : Array Bool) (S : Nat → Prop) (h : Nat) (φ : Phi) (G : AHeap) (A : Act) (w : World), listed.size = ops.size → l.length ≤ fuel → (∀ i, i < ops.size → ¬ S i → i ∈ l) → (∀ i, i < ops.size → (S i ↔ listed.getD i false = true)) →
      Inv P ops C acts heaps φ0 w0 S h φ G A w → wpAny P .any ops Q fuel listed A w := by
  have hC : ∀ (t i : Nat), C[t]? = some i → i < ops.size := fun t i ht => by
    obtain ⟨o, h1, _⟩ := st.op t i ht
    exact (Array.getElem?_eq_some_iff.1 h1).1
  have hget : ∀ (listed : Array Bool) (i : Nat), listed.size = ops.size → i < ops.size → listed.getD i true = listed.getD i false := fun listed i hs hi => by
    have : i < listed.size := by omega
    simp [Array.getD, this]
  have hend : ∀ (listed : Array Bool) (S : Nat → Prop) (h : Nat) (φ : Phi) (G : AHeap) (A : Act) (w : World), listed.size = ops.size → (∀ i, i < ops.size → (S i ↔ listed.getD i false = true)) →
      Inv P ops C acts heaps φ0 w0 S h φ G A w → Region.ready .any ops listed = [] → Q .normal A w := by
    intro listed S h φ G A w hs hl iv hr
    have hall : ∀ t : Nat, ∀ i, C[t]? = some i → S i := by
      intro t
      induction t using Nat.strongRecOn with
      | _ t ih =>
        intro i ht
        obtain ⟨o, h1, _, h3, _⟩ := st.op t i ht
        have hi := hC t i ht
        apply Classical.byContradiction
        intro hn
        have hmem : i ∈ Region.ready .any ops listed := by
          rw [mem_ready]
          refine ⟨?_, o, h1, fun e he hb => ?_⟩
          · rw [hget listed i hs hi]
            cases hx : listed.getD i false with
            | false => rfl
            | true => exact absurd ((hl i hi).2 hx) hn
          · obtain ⟨u, hu, hc⟩ := h3 e (by simpa using he) hb
            exact (hl _ (hC u _ hc)).1 (ih u hu _ hc)
        rw [hr] at hmem; simp at hmem
    obtain ⟨a, b, c⟩ := iv.all tr st h0 hg (fun i hi => by
      obtain ⟨t, ht⟩ := st.all i hi
      exact hall t i ht) hC
    exact hQ φ A w a b c
  intro fuel
  induction fuel with
  | zero =>
    intro l listed S h φ G A w hs hl hleft hS iv
    have : Region.ready .any ops listed = [] := by
      apply List.eq_nil_iff_forall_not_mem.2
      intro j hj
      obtain ⟨h1, o, ho, _⟩ := mem_ready.1 hj
      have hjs := (Array.getElem?_eq_some_iff.1 ho).1
      have hn : ¬ S j := fun hx => by
        have := (hS j hjs).1 hx
        rw [hget listed j hs hjs, this] at h1; simp at h1
      have := hleft j hjs hn
      have hnil : l = [] := List.length_eq_zero_iff.1 (by omega)
      rw [hnil] at this; simp at this
    exact ⟨this, hend listed S h φ G A w hs hS iv this⟩
  | succ fuel ih =>
    intro l listed S h φ G A w hs hl hleft hS iv
    refine ⟨hend listed S h φ G A w hs hS iv, fun i hi => ?_⟩
    obtain ⟨h1, o, ho, h3⟩ := mem_ready.1 hi
    have his := (Array.getElem?_eq_some_iff.1 ho).1
    have hn : ¬ S i := fun hx => by
      have := (hS i his).1 hx
      rw [hget listed i hs his, this] at h1; simp at h1
    have hr : Ready S o := fun e he hb => by
      have := h3 e (by simpa using he) hb
      have hlt : e.on < ops.size := by
        rcases Nat.lt_or_ge e.on listed.size with h | h
        · omega
        · simp [Array.getD, Nat.not_lt.2 h] at this
      exact (hS _ hlt).2 this
    refine draw_step hz hcall hg tr st h0 iv ho hn hr _ Q fun h' φ' G' A' w' iv' => ?_
    have hmem := hleft i his hn
    refine ih (l.erase i) _ _ h' φ' G' A' w' (by simp [hs]) (by rw [List.length_erase_of_mem hmem]; omega) (fun j hj hnj => ?_) (fun j hj => ?_) iv'
    · have hne : j ≠ i := fun e => hnj (.inl e)
      exact (List.mem_erase_of_ne hne).2 (hleft j hj (fun hx => hnj (.inr hx)))
    · have hjl : j < listed.size := by omega
      by_cases hji : j = i
      · subst hji
        simp [Array.getD, hjl]
      · have := hS j hj
        have hne : i ≠ j := fun e => hji e.symm
        simp [Array.getD, hjl] at this
        simp [Array.getD, hjl, hji, hne, this]

/-- A region that draws its order. -/
theorem runDraw_sound (hz : ZerosFlat P) (hm : P.follows .mixedOrders = true) (hcall : CallOk P callF) (hg : Grows callF) {id : Nat} (hok : drawOk P ops C = true) {a a' : AAct} {H H' : AHeap} (hrun : runDraw callF P ops (ancOf ops) C [] a H = some (a', H'))
    {A : Act} (hG : Good P φ0 H w0) (hA : ActRel φ0 a A) (hf : Free φ0 H.next H'.next) (Q : Exit → Act → World → Prop) (hQ : Then P φ0 H w0 a' H' (Q .normal)) : (Code.region id ops true).wp P Q A w0 := by
  have st := drawOk_static hok
  obtain ⟨acts, heaps, rfl, rfl, rfl, rfl, tr, _⟩ := runDraw_trace C [] a a' H H' hrun
  refine wp_region_any hm ?_
  have hn := tr.next_le hg (Nat.zero_le C.length) (Nat.le_refl _)
  have hG' : Good P φ0 (heaps 0) { w0 with drawn := w0.drawn + 1 } := ⟨hG.rel.drew _, hG.glob, hG.low⟩
  refine draw_any hz hcall hg tr st hG' Q (fun φ' A' w' h1 h2 h3 => hQ φ' A' w' h1 ((Step.drew φ0 (heaps 0) w0 _).trans h2) h3) ops.size (List.range ops.size) _ (fun _ => False) 0 φ0 ⟨(heaps C.length).next, (heaps 0).tr⟩ A _ (by simp) (by simp)
    (fun i hi _ => by simpa using hi) (fun i hi => by simp [Array.getD, hi]) ?_
  have hgetE : ∀ k, (⟨(heaps C.length).next, (heaps 0).tr⟩ : AHeap).get k = (heaps 0).get k := fun k => rfl
  have hrel := hG'.rel
  exact {
    closed := fun _ _ _ h => h.elim
    hle := Nat.zero_le _
    last := .inl rfl
    done := fun _ _ _ _ _ _ h => by omega
    later := fun _ _ _ _ _ _ _ _ h => h
    gnext := rfl
    low := hrel.lt
    gget := fun k B => by rw [hgetE]; exact ⟨.inl, fun h => h.elim (fun x => x) fun ⟨_, _, _, _, h, _⟩ => h.elim⟩
    dom := fun k a b c => absurd (hf k a b) c
    rel := ⟨fun i B hB => hrel.blk i B hB, fun i j B B' hi hj => hrel.inj i j B B' hi hj, fun i B hB => Nat.lt_of_lt_of_le (hrel.lt i B hB) hn⟩
    step := ⟨fun _ _ => rfl, hn, Nat.le_refl _, fun b _ h => ⟨rfl, fun ⟨i, B, c, l, h1, h2, h3⟩ => h ⟨i, B, c, l, h1, h2, h3⟩⟩, rfl, rfl, rfl, fun k B hk _ => hk⟩
    size := hA.len
    written := fun _ _ _ _ _ _ h => h.elim
    unwritten := fun d _ => hA.tmps d
    defers := hA.defers }

end Go.Abs

namespace Go.Abs

variable {P : Program}

/-! ## A region, in either way -/

theorem runDraw_next {callF : CallF} (hg : Grows callF) {ops : Array Oper} {anc : List Nat} : ∀ (C : List Nat) (ds : List Done) (a a' : AAct) (H H' : AHeap), runDraw callF P ops anc C ds a H = some (a', H') → H.next ≤ H'.next := by
  intro C ds a a' H H' h
  obtain ⟨acts, heaps, _, rfl, _, rfl, tr, _⟩ := runDraw_trace C ds a a' H H' h
  exact tr.next_le hg (Nat.zero_le _) (Nat.le_refl _)

def exitOf : AExit → Exit
  | .normal => .normal
  | .exit id => .exit id
  | .ret => .ret

/-- What must hold behind code. -/
def ThenE (P : Program) (φ : Phi) (H : AHeap) (w : World) (e : AExit) (a' : AAct) (H' : AHeap) (Q : Exit → Act → World → Prop) : Prop :=
  ∀ φ' A' w', Good P φ' H' w' → Step φ H w φ' H' w' → ActRel φ' a' A' → Q (exitOf e) A' w'

theorem asNormal_inv {r : Option (AAct × AHeap)} {e : AExit} {a' : AAct} {H' : AHeap} (h : asNormal r = some (e, a', H')) : e = .normal ∧ r = some (a', H') := by
  unfold asNormal at h
  split at h
  · simp only [Option.some.injEq, Prod.mk.injEq] at h
    obtain ⟨rfl, rfl, rfl⟩ := h
    exact ⟨rfl, rfl⟩
  · simp at h

theorem region_sound (hz : ZerosFlat P) (hm : P.follows .mixedOrders = true) {callF : CallF} (hcall : CallOk P callF) (hg : Grows callF) {id : Nat} {ops : Array Oper} {draw : Bool} {a a' : AAct} {H H' : AHeap} {e : AExit}
    (h : regionA callF P ops draw a H = some (e, a', H')) : H.next ≤ H'.next ∧ ∀ (φ : Phi) (A : Act) (w : World) (Q : Exit → Act → World → Prop), Good P φ H w → ActRel φ a A → Free φ H.next H'.next → ThenE P φ H w e a' H' Q → (Code.region id ops draw).wp P Q A w := by
  unfold regionA at h
  split at h
  · obtain ⟨rfl, h1⟩ := asNormal_inv h
    refine ⟨runList_next hg _ _ _ _ _ h1, fun φ A w Q hG hA hf hQ => wp_region ?_⟩
    have := runList_sound hz hcall hg Q ops.toList 0 a a' H H' (fun j => by simp) h1 φ A w hG hA hf fun φ' A' w' h1 h2 h3 => hQ φ' A' w' h1 h2 h3
    rw [List.range_eq_range']
    simpa using this
  · split at h
    · rename_i hok
      obtain ⟨rfl, h1⟩ := asNormal_inv h
      refine ⟨runDraw_next hg _ _ _ _ _ _ h1, fun φ A w Q hG hA hf hQ => ?_⟩
      exact runDraw_sound hz hm hcall hg hok h1 hG hA hf Q fun φ' A' w' h1 h2 h3 => hQ φ' A' w' h1 h2 h3
    · simp at h

/-! ## Slots forgotten -/

theorem frameOf_len (n : Nat) : ∀ l : List (Nat × Value), (frameOf n l).length = n
  | [] => by simp [frameOf]
  | (i, v) :: l => by simp [frameOf, setT_eq, frameOf_len n l]

theorem frameOf_get (n i : Nat) : ∀ l : List (Nat × Value), getT (frameOf n l) i = undef ∨ (i, getT (frameOf n l) i) ∈ l
  | [] => by
    left
    rw [getT_eq]
    simp only [frameOf, List.getD]
    cases h : (List.replicate n undef)[i]? with
    | none => rfl
    | some v =>
      have := List.mem_of_getElem? h
      simp only [List.mem_replicate] at this
      rw [this.2]; rfl
  | (j, v) :: l => by
    simp only [frameOf]
    rw [getT_eq, setT_eq]
    by_cases hj : j = i
    · subst hj
      by_cases hl : j < (frameOf n l).length
      · right
        have : ((frameOf n l).set j v).getD j undef = v := by simp [List.getD, hl]
        rw [this]; simp
      · left
        simp [List.getD, hl]
    · have e : ((frameOf n l).set j v).getD i undef = getT (frameOf n l) i := by
        rw [getT_eq]; simp [List.getD, hj]
      rw [e]
      rcases frameOf_get n i l with h | h
      · exact .inl h
      · exact .inr (by simp [h])

theorem keepT_mem (tmps : List Value) {i : Nat} {v : Value} : ∀ {l : List Nat}, (i, v) ∈ keepT tmps l → v = getT tmps i
  | [], h => by simp [keepT] at h
  | j :: l, h => by
    simp only [keepT, List.mem_cons, Prod.mk.injEq] at h
    rcases h with ⟨rfl, rfl⟩ | h
    · rfl
    · exact keepT_mem tmps h

theorem norm_rel {φ : Phi} {a : AAct} {A : Act} (h : ActRel φ a A) (k : Option (List Nat)) : ActRel φ (a.norm k) A := by
  cases k with
  | none => exact h
  | some l =>
    refine ⟨by simp only [AAct.norm]; rw [frameOf_len, len_eq]; exact h.len, fun i => ?_, h.defers⟩
    simp only [AAct.norm]
    rcases frameOf_get (len a.tmps) i (keepT a.tmps l) with h1 | h1
    · rw [h1]; exact .undef _
    · rw [keepT_mem _ h1]; exact h.tmps i

/-! ## Code -/

abbrev noHook : Nat → Option (AAct → AHeap → ARes) := fun _ => none

/-- Code stands for an abstract run of its. -/
def CodeOk (P : Program) (run : AAct → AHeap → ARes) (c : Code) : Prop :=
  ∀ a H e a' H', run a H = some (e, a', H') → H.next ≤ H'.next ∧ ∀ (φ : Phi) (A : Act) (w : World) (Q : Exit → Act → World → Prop), Good P φ H w → ActRel φ a A → Free φ H.next H'.next → ThenE P φ H w e a' H' Q → c.wp P Q A w

theorem loop_sound {run : AAct → AHeap → ARes} {c : Code} (hc : CodeOk P run c) (keep : Option (List Nat)) : ∀ (n : Nat) (a : AAct) (H : AHeap) (e : AExit) (a' : AAct) (H' : AHeap), loopA keep run n a H = some (e, a', H') →
    H.next ≤ H'.next ∧ ∀ (φ : Phi) (A : Act) (w : World) (Q : Exit → Act → World → Prop), Good P φ H w → ActRel φ a A → Free φ H.next H'.next → ThenE P φ H w e a' H' Q → Code.rounds P c Q n A w
  | 0, a, H, e, a', H', h => by simp [loopA] at h
  | n + 1, a, H, e, a', H', h => by
    have h : thenA (normRes keep (run a H)) (loopA keep run n) = some (e, a', H') := h
    cases hr : run a H with
    | none => rw [hr] at h; simp [normRes, thenA] at h
    | some r =>
      obtain ⟨e1, a1, H1⟩ := r
      rw [hr] at h
      obtain ⟨n1, s1⟩ := hc a H e1 a1 H1 hr
      by_cases he : e1 = .normal
      · subst he
        have h : loopA keep run n (a1.norm keep) H1 = some (e, a', H') := h
        obtain ⟨n2, s2⟩ := loop_sound hc keep n _ _ _ _ _ h
        refine ⟨Nat.le_trans n1 n2, fun φ A w Q hG hA hf hQ => ?_⟩
        rw [rounds_succ]
        refine s1 φ A w _ hG hA (hf.mono (Nat.le_refl _) n2) fun φ1 A1 w1 g1 st1 r1 => ?_
        exact s2 φ1 A1 w1 Q g1 (norm_rel r1 keep) (st1.free hf) fun φ2 A2 w2 g2 st2 r2 => hQ φ2 A2 w2 g2 (st1.trans st2) r2
      · have h : (e1 = e ∧ a1.norm keep = a' ∧ H1 = H') := by
          cases e1 with
          | normal => exact absurd rfl he
          | exit id => simpa [normRes, thenA] using h
          | ret => simpa [normRes, thenA] using h
        obtain ⟨rfl, rfl, rfl⟩ := h
        refine ⟨n1, fun φ A w Q hG hA hf hQ => ?_⟩
        rw [rounds_succ]
        refine s1 φ A w _ hG hA hf fun φ1 A1 w1 g1 st1 r1 => ?_
        have := hQ φ1 A1 w1 g1 st1 (norm_rel r1 keep)
        cases e1 with
        | normal => exact absurd rfl he
        | exit id => exact this
        | ret => exact this

theorem exec_sound (hz : ZerosFlat P) (hm : P.follows .mixedOrders = true) {callF : CallF} (hcall : CallOk P callF) (hg : Grows callF) (keep : Nat → Option (List Nat)) (c : Code) : CodeOk P (execA callF P keep noHook c) c := by
  induction c with
  | skip =>
    intro a H e a' H' h
    have h : (AExit.normal, a, H) = (e, a', H') := Option.some.inj h
    simp only [Prod.mk.injEq] at h
    obtain ⟨rfl, rfl, rfl⟩ := h
    exact ⟨Nat.le_refl _, fun φ A w Q hG hA hf hQ => wp_skip (hQ φ A w hG (.refl _ _ _) hA)⟩
  | region id ops draw =>
    intro a H e a' H' h
    exact region_sound hz hm hcall hg h
  | seq x y ihx ihy =>
    intro a H e a' H' h
    have h : thenA (execA callF P keep noHook x a H) (fun a H => execA callF P keep noHook y (a.norm (keep (2 * firstRegion y + 1))) H) = some (e, a', H') := h
    cases hr : execA callF P keep noHook x a H with
    | none => rw [hr] at h; simp [thenA] at h
    | some r =>
      obtain ⟨e1, a1, H1⟩ := r
      rw [hr] at h
      obtain ⟨n1, s1⟩ := ihx a H e1 a1 H1 hr
      by_cases he : e1 = .normal
      · subst he
        have h : execA callF P keep noHook y (a1.norm (keep (2 * firstRegion y + 1))) H1 = some (e, a', H') := h
        obtain ⟨n2, s2⟩ := ihy _ _ _ _ _ h
        refine ⟨Nat.le_trans n1 n2, fun φ A w Q hG hA hf hQ => ?_⟩
        refine wp_seq (s1 φ A w _ hG hA (hf.mono (Nat.le_refl _) n2) fun φ1 A1 w1 g1 st1 r1 => ?_)
        exact s2 φ1 A1 w1 Q g1 (norm_rel r1 _) (st1.free hf) fun φ2 A2 w2 g2 st2 r2 => hQ φ2 A2 w2 g2 (st1.trans st2) r2
      · have h : (e1 = e ∧ a1 = a' ∧ H1 = H') := by
          cases e1 with
          | normal => exact absurd rfl he
          | exit id => simpa [thenA] using h
          | ret => simpa [thenA] using h
        obtain ⟨rfl, rfl, rfl⟩ := h
        refine ⟨n1, fun φ A w Q hG hA hf hQ => ?_⟩
        refine wp_seq (s1 φ A w _ hG hA hf fun φ1 A1 w1 g1 st1 r1 => ?_)
        have := hQ φ1 A1 w1 g1 st1 r1
        cases e1 with
        | normal => exact absurd rfl he
        | exit id => exact this
        | ret => exact this
  | cond c x y ihx ihy =>
    intro a H e a' H' h
    have h : condA (a.eval P c) (execA callF P keep noHook x a H) (execA callF P keep noHook y a H) = some (e, a', H') := h
    have hev : ∀ (φ : Phi) (A : Act) (w : World) (b : Bool), a.eval P c = .bool b → Good P φ H w → ActRel φ a A → A.eval c = .bool b := fun φ A w b hb hG hA => by
      have := eval_rel hG.glob hA c
      rw [hb] at this
      exact bool_inv this
    unfold condA at h
    split at h
    · rename_i hb
      obtain ⟨n1, s1⟩ := ihx _ _ _ _ _ h
      exact ⟨n1, fun φ A w Q hG hA hf hQ => wp_cond_true (hev φ A w true hb hG hA) (s1 φ A w Q hG hA hf hQ)⟩
    · rename_i hb
      obtain ⟨n1, s1⟩ := ihy _ _ _ _ _ h
      exact ⟨n1, fun φ A w Q hG hA hf hQ => wp_cond_false (hev φ A w false hb hG hA) (s1 φ A w Q hG hA hf hQ)⟩
    · simp at h
  | block id x ih =>
    intro a H e a' H' h
    have h : inBlockA id (execA callF P keep noHook x a H) = some (e, a', H') := h
    cases hr : execA callF P keep noHook x a H with
    | none => rw [hr] at h; simp [inBlockA] at h
    | some r =>
      obtain ⟨e1, a1, H1⟩ := r
      rw [hr] at h
      obtain ⟨n1, s1⟩ := ih a H e1 a1 H1 hr
      have key : a1 = a' ∧ H1 = H' ∧ ∀ (Q : Exit → Act → World → Prop) A w, Q (exitOf e) A w → Exit.inBlock id Q (exitOf e1) A w := by
        unfold inBlockA at h
        split at h
        · rename_i id' a2 H2 heq
          simp only [Option.some.injEq, Prod.mk.injEq] at heq
          obtain ⟨rfl, rfl, rfl⟩ := heq
          split at h
          · rename_i hb
            rw [Nat_beq_eq', decide_eq_true_iff] at hb
            simp only [Option.some.injEq, Prod.mk.injEq] at h
            obtain ⟨rfl, rfl, rfl⟩ := h
            exact ⟨rfl, rfl, fun Q A w hq => by simp only [exitOf, Exit.inBlock, hb, if_true]; exact hq⟩
          · rename_i hb
            rw [Nat_beq_eq', decide_eq_false_iff_not] at hb
            simp only [Option.some.injEq, Prod.mk.injEq] at h
            obtain ⟨rfl, rfl, rfl⟩ := h
            exact ⟨rfl, rfl, fun Q A w hq => by simp only [exitOf, Exit.inBlock, hb, if_false]; exact hq⟩
        · rename_i hne
          simp only [Option.some.injEq, Prod.mk.injEq] at h
          obtain ⟨rfl, rfl, rfl⟩ := h
          refine ⟨rfl, rfl, fun Q A w hq => ?_⟩
          cases e1 with
          | normal => exact hq
          | exit id' => exact absurd rfl (hne id' a1 H1)
          | ret => exact hq
      obtain ⟨rfl, rfl, hQQ⟩ := key
      exact ⟨n1, fun φ A w Q hG hA hf hQ => wp_block (s1 φ A w _ hG hA hf fun φ1 A1 w1 g1 st1 r1 => hQQ Q A1 w1 (hQ φ1 A1 w1 g1 st1 r1))⟩
  | loop x ih =>
    intro a H e a' H' h
    have h : hookOr (noHook (firstRegion x)) (fun a H => loopA (keep (2 * firstRegion x)) (execA callF P keep noHook x) rounds (a.norm (keep (2 * firstRegion x))) H) a H = some (e, a', H') := h
    simp only [hookOr] at h
    obtain ⟨n1, s1⟩ := loop_sound ih (keep (2 * firstRegion x)) rounds _ _ _ _ _ h
    exact ⟨n1, fun φ A w Q hG hA hf hQ => wp_loop_rounds rounds (s1 φ A w Q hG (norm_rel hA _) hf hQ)⟩
  | rangeFunc f ps x y _ _ =>
    intro a H e a' H' h
    have h : (none : ARes) = some (e, a', H') := h
    simp at h
  | exit id =>
    intro a H e a' H' h
    have h : (AExit.exit id, a, H) = (e, a', H') := Option.some.inj h
    simp only [Prod.mk.injEq] at h
    obtain ⟨rfl, rfl, rfl⟩ := h
    exact ⟨Nat.le_refl _, fun φ A w Q hG hA hf hQ => wp_exit (hQ φ A w hG (.refl _ _ _) hA)⟩
  | scope x ih =>
    intro a H e a' H' h
    have h : execA callF P keep noHook x a H = some (e, a', H') := h
    obtain ⟨n1, s1⟩ := ih _ _ _ _ _ h
    refine ⟨n1, fun φ A w Q hG hA hf hQ => wp_scope_straight (s1 φ A w _ hG hA hf fun φ1 A1 w1 g1 st1 r1 => ?_)⟩
    have := hQ φ1 A1 w1 g1 st1 r1
    cases e <;> exact this
  | label l =>
    intro a H e a' H' h
    have h : (AExit.normal, a, H) = (e, a', H') := Option.some.inj h
    simp only [Prod.mk.injEq] at h
    obtain ⟨rfl, rfl, rfl⟩ := h
    exact ⟨Nat.le_refl _, fun φ A w Q hG hA hf hQ => wp_label (hQ φ A w hG (.refl _ _ _) hA)⟩
  | goto l =>
    intro a H e a' H' h
    have h : (none : ARes) = some (e, a', H') := h
    simp at h
  | ret =>
    intro a H e a' H' h
    have h : (AExit.ret, a, H) = (e, a', H') := Option.some.inj h
    simp only [Prod.mk.injEq] at h
    obtain ⟨rfl, rfl, rfl⟩ := h
    exact ⟨Nat.le_refl _, fun φ A w Q hG hA hf hQ => wp_ret (hQ φ A w hG (.refl _ _ _) hA)⟩
  | refuse s =>
    intro a H e a' H' h
    have h : (none : ARes) = some (e, a', H') := h
    simp at h

/-! ## What a function gives -/

theorem consOpt_inv {v : Option Value} {vs : Option (List Value)} {r : List Value} (h : consOpt v vs = some r) : ∃ x xs, v = some x ∧ vs = some xs ∧ r = x :: xs := by
  unfold consOpt at h
  split at h
  · simp only [Option.some.injEq] at h; exact ⟨_, _, rfl, rfl, h.symm⟩
  · simp at h

theorem results_list {φ : Phi} {a : AAct} {A : Act} {H : AHeap} {w : World} (hR : Rel φ H w) (hA : ∀ i, VRel φ (getT a.tmps i) (A.tmps.getD i Go.undef)) : ∀ (rs : List ResultVar) (vs : List Value), resultsA P a H rs = some vs →
    ∃ ws : List Value, LRel φ vs ws ∧ (rs.mapM (fun (r : ResultVar) => (match r with
      | .tmp t => pure (A.tmps.getD t Go.undef)
      | .cell x t => do loadVar t (← asAddr (A.tmps.getD x Go.undef)) : Sem Value))).run P w = .ok ws w
  | [], vs, h => by
    simp only [resultsA, Option.some.injEq] at h; subst h
    exact ⟨[], .nil, by simp⟩
  | .tmp t :: rs, vs, h => by
    simp only [resultsA] at h
    obtain ⟨x, xs, h1, h2, rfl⟩ := consOpt_inv h
    simp only [Option.some.injEq] at h1; subst h1
    obtain ⟨ws, r1, r2⟩ := results_list hR hA rs xs h2
    exact ⟨_ :: ws, .cons (hA t) r1, by simp only [List.mapM_cons, Sem.run_bind, Sem.run_pure, Result.andThen_ok, r2]⟩
  | .cell x t :: rs, vs, h => by
    simp only [resultsA] at h
    obtain ⟨y, xs, h1, h2, rfl⟩ := consOpt_inv h
    obtain ⟨ws, r1, r2⟩ := results_list hR hA rs xs h2
    obtain ⟨v', hv, hrun⟩ := load_sound hR h1 (hA x)
    have hptr : ∃ ad, A.tmps.getD x Go.undef = .pointer (some ad) := by
      have := hA x
      unfold loadA at h1
      split at h1
      · rename_i ad hx
        rw [hx] at this
        obtain ⟨i, o, b, c, l, _, _, e⟩ := ptr_inv this
        exact ⟨_, e⟩
      · simp at h1
    obtain ⟨ad, had⟩ := hptr
    rw [had] at hrun
    have hrun' : (loadVar t ad).run P w = .ok v' w := by
      have : (Instr.loadAt t (.pointer (some ad))).run P w = (loadVar t ad).run P w := by simp [Instr.loadAt, Instr.sureAddr]
      rw [← this]; exact hrun
    have has : (asAddr (.pointer (some ad))).run P w = .ok ad w := by simp [asAddr]
    exact ⟨v' :: ws, .cons hv r1, by simp only [List.mapM_cons, Sem.run_bind, had, has, Result.andThen_ok, hrun', r2, Sem.run_pure]⟩

theorem results_sound {φ : Phi} {a : AAct} {A : Act} {H : AHeap} {w : World} (hR : Rel φ H w) (hA : ∀ i, VRel φ (getT a.tmps i) (A.tmps.getD i Go.undef)) {fn : Func} {vs : List Value} (h : resultsA P a H fn.results.toList = some vs) :
    ∃ v', VRel φ (oneOrMore vs) v' ∧ (results fn A.tmps).run P w = .ok v' w := by
  obtain ⟨ws, h1, h2⟩ := results_list hR hA _ _ h
  have hrun : (results fn A.tmps).run P w = .ok (if h : ws.toArray.size = 1 then ws.toArray[0] else .tuple ws.toArray) w := by
    unfold results
    rw [Array.mapM_eq_mapM_toList]
    simp only [Sem.run_bind, Sem.run_map]
    erw [h2]
    rfl
  refine ⟨_, ?_, hrun⟩
  unfold oneOrMore
  split
  · rename_i v
    have hl : ws.length = 1 := by have := h1.1; simpa using this.symm
    obtain ⟨w1, rfl⟩ := List.length_eq_one_iff.1 hl
    simpa using h1.head
  · rename_i hne
    have hl : ¬ ws.length = 1 := by
      intro e
      rw [← h1.1] at e
      obtain ⟨v, rfl⟩ := List.length_eq_one_iff.1 e
      exact hne v rfl
    rw [dif_neg (by simpa using hl)]
    exact .tuple (by simpa using h1.1) (by simpa using h1.2)

/-! ## Functions -/

abbrev noHooks : Hook := fun _ => noHook

/-- No function with a body bears the name that the model takes for itself. -/
def NamesOk (P : Program) : Prop := ∀ (g : Nat) fn, P.funcs[g]? = some fn → fn.name ≠ "runtime.NumGoroutine"

theorem DsRel.nil_inv {φ : Phi} {ds : List Deferred} (h : DsRel φ [] ds) : ds = [] := by cases h; rfl

theorem leftBy_inv {fn fn' : Func} {r : ARes} {a : AAct} {H : AHeap} (h : leftBy fn r = some (fn', a, H)) : fn = fn' ∧ ∃ e, (e = .normal ∨ e = .ret) ∧ r = some (e, a, H) := by
  unfold leftBy at h
  split at h
  · simp only [Option.some.injEq, Prod.mk.injEq] at h
    obtain ⟨rfl, rfl, rfl⟩ := h
    exact ⟨rfl, _, .inl rfl, rfl⟩
  · simp only [Option.some.injEq, Prod.mk.injEq] at h
    obtain ⟨rfl, rfl, rfl⟩ := h
    exact ⟨rfl, _, .inr rfl, rfl⟩
  · simp at h

theorem args_rel {φ : Phi} {args : List Value} {cargs : Array Value} (n : Nat) (h : LRel φ args cargs.toList) : ActRel φ ⟨padTo n args, []⟩ { tmps := cargs ++ Array.replicate (n - cargs.size) Go.undef, defers := [] } := by
  have hlen : args.length = cargs.size := by simpa using h.1
  have hl : LRel φ (padTo n args) (cargs ++ Array.replicate (n - cargs.size) Go.undef).toList := by
    rw [padTo, app_eq, len_eq, hlen, Array.toList_append]
    refine h.append ?_
    rw [Array.toList_replicate]
    exact ⟨by simp, fun i x y hx hy => by
      have := List.mem_of_getElem? hx
      simp only [List.mem_replicate] at this
      rw [this.2]; exact .undef _⟩
  refine ⟨by have := hl.1; simpa using this.symm, fun i => ?_, .nil⟩
  show VRel φ (getT (padTo n args) i) _
  rw [getT_eq, List.getD]
  cases hx : (padTo n args)[i]? with
  | none => exact .undef _
  | some x =>
    obtain ⟨y, hy, hv⟩ := hl.get hx
    rw [Array.getElem?_toList] at hy
    simp only [Option.getD_some]
    rw [Array.getD_eq_getD_getElem?, hy]
    exact hv

theorem body_sound (hz : ZerosFlat P) (hm : P.follows .mixedOrders = true) {callF : CallF} (hcall : CallOk P callF) (hg : Grows callF) {keep : Keep} {f : FuncId} {args : List Value} {H H' : AHeap} {fn : Func} {a' : AAct}
    (h : bodyA callF P keep noHooks f args H = some (fn, a', H')) : H.next ≤ H'.next ∧ P.funcs[f]? = some fn ∧ ∃ c, fn.body = some c ∧ ∀ (φ : Phi) (w : World) (cargs : Array Value) (Q : Exit → Act → World → Prop), Good P φ H w → Free φ H.next H'.next → LRel φ args cargs.toList →
      (∀ φ' A' w', Good P φ' H' w' → Step φ H w φ' H' w' → ActRel φ' a' A' → Q .normal A' w' ∧ Q .ret A' w') → c.wp P Q { tmps := cargs ++ Array.replicate (fn.ntmps - cargs.size) Go.undef, defers := [] } w := by
  unfold bodyA at h
  split at h
  · simp at h
  · rename_i fn0 hfn
    rw [nth_eq, Array.getElem?_toList] at hfn
    split at h
    · simp at h
    · rename_i c hc
      obtain ⟨rfl, e, he, h⟩ := leftBy_inv h
      obtain ⟨n1, s1⟩ := exec_sound hz hm hcall hg (keep f) c _ _ _ _ _ h
      refine ⟨n1, hfn, c, hc, fun φ w cargs Q hG hf ha hQ => s1 φ _ w Q hG (args_rel _ ha) hf fun φ' A' w' g' st' r' => ?_⟩
      rcases he with rfl | rfl
      · exact (hQ φ' A' w' g' st' r').1
      · exact (hQ φ' A' w' g' st' r').2

theorem defers_next {callF : CallF} {keep : Keep} (hb : ∀ f args H fn a' H', bodyA callF P keep noHooks f args H = some (fn, a', H') → H.next ≤ H'.next) : ∀ (ds : List (FuncId × List Value)) (H H' : AHeap), runDefers callF P keep noHooks ds H = some H' → H.next ≤ H'.next
  | [], H, H', h => by simp only [runDefers, Option.some.injEq] at h; rw [h]; exact Nat.le_refl _
  | (g, args) :: ds, H, H', h => by
    simp only [runDefers] at h
    split at h
    · rename_i fn a H1 hbody
      split at h
      · exact Nat.le_trans (hb _ _ _ _ _ _ hbody) (defers_next hb ds _ _ h)
      · simp at h
    · simp at h

theorem defers_sound (hz : ZerosFlat P) (hm : P.follows .mixedOrders = true) (hn : NamesOk P) {callF : CallF} (hcall : CallOk P callF) (hg : Grows callF) {keep : Keep} {fn : Func} {tmps : Array Value} {R : Ending → World → Prop} :
    ∀ (ds : List (FuncId × List Value)) (Ds : List Deferred) (H H' : AHeap), runDefers callF P keep noHooks ds H = some H' → ∀ (φ : Phi) (w : World), Good P φ H w → Free φ H.next H'.next → DsRel φ ds Ds →
      (∀ φ' w', Good P φ' H' w' → Step φ H w φ' H' w' → Leaves P fn tmps R [] .returning w') → Leaves P fn tmps R Ds .returning w
  | [], _, H, H', h, φ, w, hG, hf, hd, hK => by
    cases hd
    simp only [runDefers, Option.some.injEq] at h; subst h
    exact hK φ w hG (.refl _ _ _)
  | (g, args) :: ds, _, H, H', h, φ, w, hG, hf, hd, hK => by
    cases hd with
    | cons hx hs =>
      rename_i d Ds
      obtain ⟨cap, dargs, rfl, hargs⟩ := hx
      simp only [runDefers] at h
      split at h
      · rename_i fn1 a1 H1 hbody
        split at h
        · rename_i vs hdef hres
          obtain ⟨n1, hfn, c, hc, s1⟩ := body_sound hz hm hcall hg hbody
          have n2 := defers_next (fun f args H fn a' H' hb => (body_sound hz hm hcall hg hb).1) ds H1 H' h
          have hinv : (invoke (.fn (.func g) cap) dargs).run P w = .ok (.enter g (dargs ++ cap)) w := by
            unfold invoke
            exact callFunc_run hfn (by rw [hc]; rfl) (hn g fn1 hfn) _ w
          refine leaves_cons (by simp) hinv ?_
          refine CallsD.mono (R := fun e u' w' => u' = .returning ∧ (match e with
            | .returned _ => Leaves P fn tmps R Ds .returning w'
            | _ => False)) (callsD_of_wp (R := fun e w' => (match e with
            | .returned _ => Leaves P fn tmps R Ds .returning w'
            | _ => False)) hfn hc ?_) ?_
          · refine s1 φ w (dargs ++ cap) _ hG (hf.mono (Nat.le_refl _) n2) hargs fun φ1 A1 w1 g1 st1 r1 => ?_
            have hle := st1.le (hf.mono (Nat.le_refl _) n2)
            have hnd : A1.defers = [] := by
              have := r1.defers
              rw [hdef] at this
              exact this.nil_inv
            obtain ⟨v', _, hrun⟩ := results_sound g1.rel r1.tmps hres
            have hL : Leaves P fn tmps R Ds .returning w1 := defers_sound hz hm hn hcall hg ds Ds H1 H' h φ1 w1 g1 (st1.free hf) (hs.mono hle) fun φ2 w2 g2 st2 => hK φ2 w2 g2 (st1.trans st2)
            exact ⟨⟨hnd, v', hrun, hL⟩, ⟨hnd, v', hrun, hL⟩⟩
          · intro e u' w' ⟨hu, he⟩
            subst hu
            cases e with
            | returned v => exact he
            | panicked ch => exact he.elim
            | outgrown => exact he.elim
        · simp at h
      · simp at h

/-! ## Calls -/

/-- What is asked of the functions that are taken by contract. -/
structure PrimOk (P : Program) (prim : Prim) : Prop where
  calls : ∀ f p, prim f = some p → ∀ args H v H', p args H = some (v, H') → ∀ φ w (cargs : Array Value), Good P φ H w → Free φ H.next H'.next → LRel φ args cargs.toList → Calls P f cargs w (Post φ H w v H')
  enters : ∀ f p, prim f = some p → ∃ fn, P.funcs[f]? = some fn ∧ fn.body.isSome = true
  next : ∀ f p, prim f = some p → ∀ args H v H', p args H = some (v, H') → H.next ≤ H'.next

theorem leave_inv {callF : CallF} {keep : Keep} {hook : Hook} {r : Option (Func × AAct × AHeap)} {v : Value} {H' : AHeap} (h : leaveA callF P keep hook r = some (v, H')) :
    ∃ fn a H1 vs, r = some (fn, a, H1) ∧ runDefers callF P keep hook a.defers H1 = some H' ∧ resultsA P a H' fn.results.toList = some vs ∧ v = oneOrMore vs := by
  unfold leaveA at h
  split at h
  · rename_i fn a H1
    split at h
    · rename_i H2 hd
      unfold returnA at h
      split at h
      · rename_i vs hv
        simp only [Option.some.injEq, Prod.mk.injEq] at h
        obtain ⟨rfl, rfl⟩ := h
        exact ⟨fn, a, H1, vs, rfl, hd, hv, rfl⟩
      · simp at h
    · simp at h
  · simp at h

theorem call_sound (hz : ZerosFlat P) (hm : P.follows .mixedOrders = true) (hn : NamesOk P) {prim : Prim} (hp : PrimOk P prim) (keep : Keep) : ∀ n : Nat, CallOk P (callA P prim keep noHooks n) ∧ Grows (callA P prim keep noHooks n)
  | 0 => by
    refine ⟨⟨fun g args H v H' h => ?_, fun g args H r h => ?_⟩, fun g args H v H' h => ?_⟩ <;> simp [callA] at h
  | n + 1 => by
    obtain ⟨hcall, hg⟩ := call_sound hz hm hn hp keep n
    have hnext : ∀ f args H fn a' H', bodyA (callA P prim keep noHooks n) P keep noHooks f args H = some (fn, a', H') → H.next ≤ H'.next := fun f args H fn a' H' hb => (body_sound hz hm hcall hg hb).1
    refine ⟨⟨fun g args H v H' h φ w cargs hG hf ha => ?_, fun g args H r h => ?_⟩, fun g args H v H' h => ?_⟩
    · simp only [callA] at h
      split at h
      · rename_i p hpr
        exact hp.calls g p hpr args H v H' h φ w cargs hG hf ha
      · obtain ⟨fn, a, H1, vs, hb, hd, hv, rfl⟩ := leave_inv h
        obtain ⟨n1, hfn, c, hc, s1⟩ := body_sound hz hm hcall hg hb
        have n2 := defers_next hnext _ _ _ hd
        refine calls_of_wp_defers hfn hc (s1 φ w cargs _ hG (hf.mono (Nat.le_refl _) n2) ha fun φ1 A1 w1 g1 st1 r1 => ?_)
        have hL : Leaves P fn A1.tmps (Post φ H w (oneOrMore vs) H') A1.defers .returning w1 := by
          refine defers_sound hz hm hn hcall hg a.defers A1.defers H1 H' hd φ1 w1 g1 (st1.free hf) r1.defers fun φ2 w2 g2 st2 => ?_
          have hle := st2.le (st1.free hf)
          obtain ⟨v', hv', hrun⟩ := results_sound g2.rel (fun i => (r1.tmps i).mono hle) hv
          exact ⟨v', hrun, φ2, hv', g2.rel, st1.trans st2⟩
        exact ⟨hL, hL⟩
    · simp only [callA] at h
      split at h
      · rename_i p hpr
        obtain ⟨fn, h1, h2⟩ := hp.enters g p hpr
        exact ⟨fn, h1, h2, hn g fn h1⟩
      · obtain ⟨v, H'⟩ := r
        obtain ⟨fn, a, H1, vs, hb, hd, hv, rfl⟩ := leave_inv h
        obtain ⟨n1, hfn, c, hc, s1⟩ := body_sound hz hm hcall hg hb
        exact ⟨fn, hfn, by rw [hc]; rfl, hn g fn hfn⟩
    · simp only [callA] at h
      split at h
      · rename_i p hpr
        exact hp.next g p hpr args H v H' h
      · obtain ⟨fn, a, H1, vs, hb, hd, hv, rfl⟩ := leave_inv h
        exact Nat.le_trans (hnext _ _ _ _ _ _ hb) (defers_next hnext _ _ _ hd)

end Go.Abs

namespace Go.Abs

variable {P : Program}

/-- Only what lies below. -/
def below (φ : Phi) (n : Nat) : Phi := fun i => if i < n then φ i else none

theorem below_le (φ : Phi) (n : Nat) : Le (below φ n) φ := by
  intro i x h
  unfold below at h
  split at h
  · exact h
  · simp at h

/-- A closed heap: its blocks are only read, and what stands in them points to what lies below. -/
structure Closed (P : Program) (Hg : AHeap) : Prop where
  ro : ∀ k B, Hg.get k = some B → B.isRo = true
  lt : ∀ k B, Hg.get k = some B → k < Hg.next
  glob : P.globals.size < Hg.next
  down : ∀ (φ : Phi) k xs, Hg.get k = some (.ro xs) → ∀ x ∈ xs, ∀ y, VRel φ x y → VRel (below φ Hg.next) x y

theorem Closed.good {Hg H : AHeap} (hc : Closed P Hg) (hs : ∀ k B, Hg.get k = some B → H.get k = some B) {φ : Phi} {w : World} (hG : Good P φ H w) : Good P (below φ Hg.next) Hg w := by
  refine ⟨⟨fun i B hB => ?_, fun i j B B' hi hj hr => ?_, hc.lt⟩, fun g hg => ?_, hc.glob⟩
  · obtain ⟨b, c, l, h1, h2⟩ := hG.rel.blk i B (hs i B hB)
    have hr := hc.ro i B hB
    refine ⟨b, c, l, by unfold below; rw [if_pos (hc.lt i B hB)]; exact h1, ?_⟩
    cases B with
    | cells xs => simp [Blk.isRo] at hr
    | map es => simp [Blk.isRo] at hr
    | ro xs =>
      obtain ⟨cs, e, f, g1, g2, g3, g4⟩ := h2
      refine ⟨cs, e, f, g1, g2, g3, fun j x hx => ?_⟩
      obtain ⟨y, hy, hv⟩ := g4 j x hx
      exact ⟨y, hy, hc.down φ i xs hB x (List.mem_of_getElem? hx) y hv⟩
  · rw [hc.ro i B hi, hc.ro j B' hj] at hr
    simp at hr
  · obtain ⟨l, hl⟩ := hG.glob g hg
    exact ⟨l, by unfold below; rw [if_pos (Nat.lt_of_le_of_lt hg hc.glob)]; exact hl⟩

/-- A closed call. -/
theorem closed_call {callF : CallF} (hcall : CallOk P callF) {Hg H' : AHeap} (hc : Closed P Hg) {f : FuncId} {v : Value} (hv : scalar v = true) (h : callF f [] Hg = some (v, H'))
    {H : AHeap} (hs : ∀ k B, Hg.get k = some B → H.get k = some B) {φ : Phi} {w : World} {cargs : Array Value} (hG : Good P φ H w) (ha : LRel φ [] cargs.toList) : Calls P f cargs w (Post φ H w v H) := by
  have hg := hc.good hs hG
  have hempty : LRel (below φ Hg.next) [] cargs.toList := ⟨ha.1, fun i x y hx => by simp at hx⟩
  refine (hcall.calls f [] Hg v H' h _ w cargs hg (fun i a _ => by unfold below; rw [if_neg (by omega)]) hempty).mono fun e w' he => ?_
  cases e with
  | panicked => exact he.elim
  | outgrown => exact he.elim
  | returned v' =>
    obtain ⟨φ', h1, h2, h3⟩ := he
    have hold : ∀ b, b < w.heap.size → w'.heap[b]? = w.heap[b]? := fun b hb => (h3.keep b hb (fun ⟨i, B, c, l, g1, g2, _⟩ => by rw [hc.ro i B g1] at g2; simp at g2)).1
    have hv' : v' = v := scalar_rel h1 hv
    refine ⟨φ, by rw [hv']; exact rel_of_scalar hv, ⟨fun i B hB => ?_, hG.rel.inj, hG.rel.lt⟩, ⟨fun _ _ => rfl, Nat.le_refl _, h3.size, fun b hb hi => ⟨hold b hb, hi⟩, h3.os, h3.out, h3.tape, fun _ _ h _ => h⟩⟩
    obtain ⟨b, c, l, g1, g2⟩ := hG.rel.blk i B hB
    exact ⟨b, c, l, g1, g2.mono (fun _ _ h => h) (hold b g2.lt)⟩

end Go.Abs

namespace Go.Abs

variable {P : Program} {γ : Type}

/-! ## Frames as lists of what was written -/

abbrev Al := List (Nat × Value)
abbrev KK (γ : Type) := AExit → Al → AHeap → Option γ

noncomputable def getA (al : Al) : Nat → Value := List.rec (fun _ => undef) (fun p _ ih t => match Nat.beq p.1 t with
  | true => p.2
  | false => ih t) al

theorem getA_nil (t : Nat) : getA [] t = undef := rfl
theorem getA_cons (p : Nat × Value) (al : Al) (t : Nat) : getA (p :: al) t = if p.1 = t then p.2 else getA al t := by
  show (match Nat.beq p.1 t with | true => p.2 | false => getA al t) = _
  rw [Nat_beq_eq']
  by_cases h : p.1 = t <;> simp [h]

noncomputable def evalL (P : Program) (al : Al) (x : Operand) : Value :=
  match x with
  | .tmp t => getA al t
  | .const v => constA v
  | .global g => globalA P g
  | .func f => .func (.func f) #[] #[]

/-- The list stands for the frame. -/
structure Rep (n : Nat) (a : AAct) (al : Al) : Prop where
  len : len a.tmps = n
  defers : a.defers = []
  get : ∀ t, getT a.tmps t = getA al t

theorem Rep.eval {n : Nat} {a : AAct} {al : Al} (h : Rep n a al) : a.eval P = evalL P al := by
  funext x
  cases x with
  | tmp t => exact h.get t
  | const v => rfl
  | global g => rfl
  | func f => rfl

def putL (n : Nat) (al : Al) (dst : Option Tmp) (v : Value) (k : Al → Option γ) : Option γ := match dst with
  | some d => match Nat.blt d n with
    | true => k ((d, v) :: al)
    | false => none
  | none => k al

theorem putL_from {n : Nat} {a : AAct} {al : Al} (h : Rep n a al) {dst : Option Tmp} {v : Value} {k : Al → Option γ} {y : γ} (hk : putL n al dst v k = some y) : ∃ al', Rep n (a.put dst v) al' ∧ k al' = some y := by
  unfold putL at hk
  split at hk
  · rename_i d
    split at hk
    · rename_i hd
      rw [Nat_blt_eq, decide_eq_true_iff] at hd
      refine ⟨_, ⟨?_, ?_, fun t => ?_⟩, hk⟩
      · rw [← h.len, len_eq, len_eq]; simp [AAct.put, setT_eq]
      · exact h.defers
      · have hlen : a.tmps.length = n := by rw [← len_eq]; exact h.len
        rw [getA_cons]
        simp only [AAct.put]
        rw [getT_eq, setT_eq]
        by_cases ht : d = t
        · subst ht
          have : d < a.tmps.length := by rw [hlen]; exact hd
          simp [List.getD, this]
        · rw [if_neg ht, ← h.get t, getT_eq]
          simp [List.getD, ht]
    · simp at hk
  · exact ⟨al, h, hk⟩

noncomputable def putVK (n : Nat) (al : Al) (dst : Option Tmp) (H : AHeap) (r : Option Value) (k : Al → AHeap → Option γ) : Option γ := r.bind fun v => putL n al dst v fun al => k al H
noncomputable def putBK (n : Nat) (al : Al) (dst : Option Tmp) (H : AHeap) (r : Option (Blk × (Nat → Value))) (k : Al → AHeap → Option γ) : Option γ := r.bind fun p => putL n al dst (p.2 H.next) fun al => k al (H.push p.1)
noncomputable def putEK (n : Nat) (al : Al) (dst : Option Tmp) (r : Option (Value × AHeap)) (k : Al → AHeap → Option γ) : Option γ := r.bind fun p => putL n al dst p.1 fun al => k al p.2

def convK (c : Cls) (p r e : Option γ) (b : Option γ) : Option γ := match c with
  | .P => p
  | .R => r
  | .A => b
  | .E => e

noncomputable def stepK (callF : CallF) (P : Program) (op : Op) (dst : Option Tmp) (n : Nat) (al : Al) (H : AHeap) (k : Al → AHeap → Option γ) : Option γ :=
  match op with
  | .move x => putL n al dst (evalL P al x) fun al => k al H
  | .assign x => putL n al dst (evalL P al x) fun al => k al H
  | .pick c x y => putVK n al dst H (pickA (evalL P al c) (evalL P al x) (evalL P al y)) k
  | .build t parts => putVK n al dst H (buildA (buildT P t) (partsA (evalL P al) parts.toList)) k
  | .nilCheck x => putVK n al dst H (nilA (evalL P al x)) k
  | .binOp op t x y _ => putVK n al dst H (binA P op t x y (evalL P al x) (evalL P al y)) k
  | .unOp op _ x => putVK n al dst H (unA op (evalL P al x)) k
  | .convert s d x => convK (convCls (descKind P s) (descKind P d)) (putVK n al dst H (convA (convT P s d) (evalL P al x)) k) (putVK n al dst H (strOfA (toStrT P s d) (evalL P al x) H) k)
      (putEK n al dst (reslice (resliceT P s d) (evalL P al x) H) k) (putBK n al dst H (bytesOfA (toBytesT P s d) (evalL P al x)) k)
  | .makeInterface t x => putVK n al dst H (ifaceA (descKind P t) t (evalL P al x)) k
  | .makeFunc fn first cap => putL n al dst (.func fn (vals (evalL P al) first.toList).toArray (vals (evalL P al) cap.toList).toArray) fun al => k al H
  | .slice t x lo hi mx => convK (sliceCls (descKind P t)) (putVK n al dst H (sliceA (descKind P t) (rowT P t) (evalL P al x) (optVal (evalL P al) lo) (optVal (evalL P al) hi) (optVal (evalL P al) mx)) k)
      (putVK n al dst H (sliceArr (rowT P t) (evalL P al x) (optVal (evalL P al) lo) (optVal (evalL P al) hi) (optVal (evalL P al) mx) H) k) none none
  | .fieldAddr s x f => putVK n al dst H (fieldPtr (fieldT P s f) (evalL P al x)) k
  | .field s x f => putVK n al dst H (fieldA P (fieldT P s f) (evalL P al x)) k
  | .indexAddr t x i => putVK n al dst H (indexPtr (rowT P t) (evalL P al x) (evalL P al i)) k
  | .index t x i => putVK n al dst H (indexA (descKind P t) (arrT P t) (evalL P al x) (evalL P al i)) k
  | .extract x i => putVK n al dst H (extractA (evalL P al x) i) k
  | .typeAssert x _ t ok => putVK n al dst H (assertA (descKind P t) (zeroT P t) (evalL P al x) t ok) k
  | .load t x => putVK n al dst H (loadA (loadT P t) (evalL P al x) H) k
  | .lookup t m x ok => putVK n al dst H (lookupA P (mapT P t) (evalL P al m) (evalL P al x) ok H) k
  | .alloc t => putBK n al dst H (newZero (zeroT P t)) k
  | .box _ x => putBK n al dst H (newPtr (cellsOf (evalL P al x))) k
  | .buildSlice t len parts => putBK n al dst H (buildSliceA (zeroRowT P t) len (partsA (evalL P al) parts.toList)) k
  | .makeSlice t l c => putBK n al dst H (makeSliceA (zeroRowT P t) (evalL P al l) (evalL P al c)) k
  | .makeMap t r => putBK n al dst H (makeMapA (mapT P t) (optVal (evalL P al) r)) k
  | .store t x v => putEK n al dst (storeA (sizeT P t) (evalL P al x) (evalL P al v) H) k
  | .mapUpdate t m x v => putEK n al dst (updateA P (mapT P t) (evalL P al m) (evalL P al x) (evalL P al v) H) k
  | .insert t m x v => putEK n al dst (updateA P (mapT P t) (evalL P al m) (evalL P al x) (evalL P al v) H) k
  | .call c => convK (callCls P c) (putVK n al dst H (pureCall P c (evalL P al)) k) (putVK n al dst H (readCall P c (evalL P al) H) k) (putEK n al dst (effCall callF P c (evalL P al) H) k) none
  | _ => none

/-- What a run with what follows comes from. -/
def From (n : Nat) (r : Option (AAct × AHeap)) (k : Al → AHeap → Option γ) (x : Option γ) : Prop := ∀ y, x = some y → ∃ a' al' H', r = some (a', H') ∧ Rep n a' al' ∧ k al' H' = some y

section
variable {n : Nat} {a : AAct} {al : Al}

theorem putVK_from (h : Rep n a al) (dst : Option Tmp) (H : AHeap) (r : Option Value) (k : Al → AHeap → Option γ) : From n (putV a dst H r) k (putVK n al dst H r k) := by
  intro y hy
  cases r with
  | none => simp [putVK] at hy
  | some v => obtain ⟨al', h1, h2⟩ := putL_from h (v := v) (k := fun al => k al H) hy; exact ⟨_, al', _, rfl, h1, h2⟩
theorem putBK_from (h : Rep n a al) (dst : Option Tmp) (H : AHeap) (r : Option (Blk × (Nat → Value))) (k : Al → AHeap → Option γ) : From n (putB a dst H r) k (putBK n al dst H r k) := by
  intro y hy
  cases r with
  | none => simp [putBK] at hy
  | some p => obtain ⟨al', h1, h2⟩ := putL_from h (v := p.2 H.next) (k := fun al => k al (H.push p.1)) hy; exact ⟨_, al', _, rfl, h1, h2⟩
theorem putEK_from (h : Rep n a al) (dst : Option Tmp) (r : Option (Value × AHeap)) (k : Al → AHeap → Option γ) : From n (putE a dst r) k (putEK n al dst r k) := by
  intro y hy
  cases r with
  | none => simp [putEK] at hy
  | some p => obtain ⟨al', h1, h2⟩ := putL_from h (v := p.1) (k := fun al => k al p.2) hy; exact ⟨_, al', _, rfl, h1, h2⟩
theorem putPK_from (h : Rep n a al) (dst : Option Tmp) (H : AHeap) (v : Value) (k : Al → AHeap → Option γ) : From n (some (a.put dst v, H)) k (putL n al dst v fun al => k al H) := by
  intro y hy
  obtain ⟨al', h1, h2⟩ := putL_from h (v := v) hy; exact ⟨_, al', _, rfl, h1, h2⟩

theorem stepK_from (h : Rep n a al) (callF : CallF) (P : Program) (op : Op) (dst : Option Tmp) (H : AHeap) (k : Al → AHeap → Option γ) : From n (stepOp callF P op dst a H) k (stepK callF P op dst n al H k) := by
  have he := h.eval (P := P)
  cases op <;> simp only [stepK, stepOp, he]
  case move x => exact putPK_from h _ _ _ _
  case assign x => exact putPK_from h _ _ _ _
  case makeFunc => exact putPK_from h _ _ _ _
  case convert s d x =>
    unfold stepConv convK
    cases hc : convCls (descKind P s) (descKind P d) with
    | P => exact putVK_from h _ _ _ _
    | R => exact putVK_from h _ _ _ _
    | A => exact putBK_from h _ _ _ _
    | E => exact putEK_from h _ _ _
  case slice t x lo hi mx =>
    unfold stepSlice convK
    cases hc : sliceCls (descKind P t) with
    | P => exact putVK_from h _ _ _ _
    | R => exact putVK_from h _ _ _ _
    | A => intro y h; simp at h
    | E => intro y h; simp at h
  case call c =>
    unfold stepCall convK
    rw [he]
    cases hc : callCls P c with
    | P => exact putVK_from h _ _ _ _
    | R => exact putVK_from h _ _ _ _
    | A => intro y h; simp at h
    | E => exact putEK_from h _ _ _
  all_goals first
    | exact putVK_from h _ _ _ _
    | exact putBK_from h _ _ _ _
    | exact putEK_from h _ _ _
    | (intro y h; simp at h; done)
end

/-- A choice by a truth value. -/
def boolK (v : Value) (x y : Option γ) : Option γ := match v with
  | .bool true => x
  | .bool false => y
  | _ => none

theorem Rep.know {n : Nat} {a : AAct} {al : Al} (h : Rep n a al) {d : Nat} {v : Value} (hv : getA al d = v) : Rep n a ((d, v) :: al) :=
  ⟨h.len, h.defers, fun t => by
    rw [getA_cons]
    by_cases ht : d = t
    · subst ht; rw [if_pos rfl, h.get, hv]
    · rw [if_neg ht, h.get]⟩

noncomputable def wantedK (ops : Array Oper) (al : Al) (g : Option (Nat × Bool)) (yes no : Al → Option γ) : Option γ :=
  match g with
  | none => yes al
  | some (j, want) => match nth ops.toList j with
    | some o => match o.dst with
      | some d => match want with
        | true => boolK (getA al d) (yes ((d, .bool true) :: al)) (no ((d, .bool false) :: al))
        | false => boolK (getA al d) (no ((d, .bool true) :: al)) (yes ((d, .bool false) :: al))
      | none => none
    | none => none

theorem wantedK_from {n : Nat} {a : AAct} {al : Al} (h : Rep n a al) {ops : Array Oper} {g : Option (Nat × Bool)} {yes no : Al → Option γ} {y : γ} (hy : wantedK ops al g yes no = some y) :
    (∃ al', Rep n a al' ∧ wantedA ops a.tmps g = some true ∧ yes al' = some y) ∨ (∃ al', Rep n a al' ∧ wantedA ops a.tmps g = some false ∧ no al' = some y) := by
  unfold wantedK at hy
  unfold wantedA
  split at hy
  · exact .inl ⟨al, h, rfl, hy⟩
  · rename_i j want
    simp only
    split at hy
    · rename_i o ho
      simp only [ho]
      split at hy
      · rename_i d hd
        simp only [hd, h.get]
        unfold boolK at hy
        split at hy <;> split at hy
        · rename_i hb; exact .inl ⟨_, h.know hb, by simp only [hb]; rfl, hy⟩
        · rename_i hb; exact .inr ⟨_, h.know hb, by simp only [hb]; rfl, hy⟩
        · simp at hy
        · rename_i hb; exact .inr ⟨_, h.know hb, by simp only [hb]; rfl, hy⟩
        · rename_i hb; exact .inl ⟨_, h.know hb, by simp only [hb]; rfl, hy⟩
        · simp at hy
      · simp at hy
    · simp at hy

noncomputable def runListK (callF : CallF) (P : Program) (n : Nat) (ops : Array Oper) (l : List Oper) : Al → AHeap → (Al → AHeap → Option γ) → Option γ :=
  List.rec (fun al H k => k al H)
    (fun o _ ih al H k => wantedK ops al o.guard (fun al => stepK callF P o.op o.dst n al H fun al H => ih al H k) (fun al => putL n al o.dst undef fun al => ih al H k)) l

theorem runListK_from {callF : CallF} {ops : Array Oper} {n : Nat} : ∀ (l : List Oper) (a : AAct) (al : Al) (H : AHeap) (k : Al → AHeap → Option γ), Rep n a al → From n (runList callF P ops l a H) k (runListK callF P n ops l al H k)
  | [], a, al, H, k, h => fun y hy => ⟨a, al, H, rfl, h, hy⟩
  | o :: os, a, al, H, k, h => by
    intro y hy
    have hy : wantedK ops al o.guard (fun al => stepK callF P o.op o.dst n al H fun al H => runListK callF P n ops os al H k) (fun al => putL n al o.dst undef fun al => runListK callF P n ops os al H k) = some y := hy
    rw [runList_cons]
    rcases wantedK_from h hy with ⟨al1, h1, hw, hy⟩ | ⟨al1, h1, hw, hy⟩
    · obtain ⟨a2, al2, H2, e2, h2, hy⟩ := stepK_from h1 callF P o.op o.dst H _ y hy
      obtain ⟨a3, al3, H3, e3, h3, hy⟩ := runListK_from os a2 al2 H2 k h2 y hy
      exact ⟨a3, al3, H3, by rw [hw, e2]; exact e3, h3, hy⟩
    · obtain ⟨al2, h2, hy⟩ := putL_from h1 hy
      obtain ⟨a3, al3, H3, e3, h3, hy⟩ := runListK_from os _ al2 H k h2 y hy
      exact ⟨a3, al3, H3, by rw [hw]; exact e3, h3, hy⟩

def chkK (b : Bool) (x : Option γ) : Option γ := match b with
  | true => x
  | false => none

structure DoneL where
  i : Nat
  op : Op
  al : Al
  val : Value

noncomputable def rereadsL (P : Program) (anc : List Nat) (j : Nat) (H : AHeap) : List DoneL → Bool
  | [] => true
  | d :: l => (isAnc anc d.i j || sameOpt d.val (readOp P d.op (evalL P d.al) H)) && rereadsL P anc j H l

inductive DsL (P : Program) : List Done → List DoneL → Prop
  | nil : DsL P [] []
  | cons {d : Done} {e : DoneL} {ds es} (h1 : d.i = e.i) (h2 : d.op = e.op) (h3 : d.act.eval P = evalL P e.al) (h4 : d.val = e.val) (hs : DsL P ds es) : DsL P (d :: ds) (e :: es)

theorem rereadsL_eq {anc : List Nat} {j : Nat} {H : AHeap} {ds : List Done} {es : List DoneL} (h : DsL P ds es) : rereads P anc j H ds = rereadsL P anc j H es := by
  induction h with
  | nil => rfl
  | cons h1 h2 h3 h4 _ ih => simp only [rereads, rereadsL, h1, h2, h3, h4, ih]

noncomputable def drawStepK (callF : CallF) (P : Program) (n : Nat) (anc : List Nat) (i : Nat) (o : Oper) (ds : List DoneL) (al : Al) (H : AHeap) (next : List DoneL → Al → AHeap → Option γ) : Option γ :=
  match cls P o.op with
  | .E => stepK callF P o.op o.dst n al H fun al' H' => chkK (rereadsL P anc i H' ds) (next ds al' H')
  | .R => (readOp P o.op (evalL P al) H).bind fun v => putL n al o.dst v fun al' => next (⟨i, o.op, al, v⟩ :: ds) al' H
  | _ => stepK callF P o.op o.dst n al H (next ds)

noncomputable def runDrawK (callF : CallF) (P : Program) (n : Nat) (ops : Array Oper) (anc : List Nat) : List Nat → List DoneL → Al → AHeap → (Al → AHeap → Option γ) → Option γ
  | [], _, al, H, k => k al H
  | i :: is, ds, al, H, k =>
    match nth ops.toList i with
    | none => none
    | some o => wantedK ops al o.guard (fun al => drawStepK callF P n anc i o ds al H fun ds al H => runDrawK callF P n ops anc is ds al H k) (fun al => putL n al o.dst undef fun al => runDrawK callF P n ops anc is ds al H k)

theorem read_step {callF : CallF} {op : Op} {dst : Option Tmp} {a : AAct} {H : AHeap} {v : Value} (hc : cls P op = .R) (h : readOp P op (a.eval P) H = some v) : stepOp callF P op dst a H = some (a.put dst v, H) := by
  cases op <;> simp only [cls] at hc <;> simp only [readOp] at h <;> simp only [stepOp]
  case convert s d x => unfold stepConv; rw [hc]; simp only [h, putV]
  case slice t x lo hi mx => unfold stepSlice; rw [hc]; simp only [h, putV]
  case call c => unfold stepCall; rw [hc]; simp only [h, putV]
  all_goals first
    | (simp only [h, putV]; done)
    | (simp at hc; done)

theorem runDrawK_from {callF : CallF} {ops : Array Oper} {anc : List Nat} {n : Nat} : ∀ (C : List Nat) (ds : List Done) (es : List DoneL) (a : AAct) (al : Al) (H : AHeap) (k : Al → AHeap → Option γ), DsL P ds es → Rep n a al → From n (runDraw callF P ops anc C ds a H) k (runDrawK callF P n ops anc C es al H k)
  | [], ds, es, a, al, H, k, _, h => fun y hy => ⟨a, al, H, rfl, h, hy⟩
  | i :: is, ds, es, a, al, H, k, hd, h => by
    intro y hy
    unfold runDrawK at hy
    unfold runDraw
    split at hy
    · simp at hy
    · rename_i o ho
      simp only [ho]
      rcases wantedK_from h hy with ⟨al1, h1, hw, hy⟩ | ⟨al1, h1, hw, hy⟩
      · rw [hw]
        simp only
        unfold drawStepK at hy
        split at hy
        · rename_i hc
          obtain ⟨a2, al2, H2, e2, h2, hy⟩ := stepK_from h1 callF P o.op o.dst H _ y hy
          rw [e2, hc]
          have hy : chkK (rereadsL P anc i H2 es) (runDrawK callF P n ops anc is es al2 H2 k) = some y := hy
          cases hr : rereadsL P anc i H2 es with
          | true =>
            rw [hr] at hy
            simp only [rereadsL_eq hd, hr]
            exact runDrawK_from is ds es a2 al2 H2 k hd h2 y hy
          | false => rw [hr] at hy; simp [chkK] at hy
        · rename_i hc
          cases hv : readOp P o.op (evalL P al1) H with
          | none => rw [hv] at hy; simp at hy
          | some v =>
            rw [hv] at hy
            simp only [Option.bind_some] at hy
            have hv' : readOp P o.op (a.eval P) H = some v := by rw [h1.eval]; exact hv
            rw [read_step hc hv', hc]
            simp only [hv']
            obtain ⟨al2, h2, hy⟩ := putL_from h1 hy
            exact runDrawK_from is _ _ _ al2 H k (.cons rfl rfl h1.eval rfl hd) h2 y hy
        · rename_i n1 n2
          obtain ⟨a2, al2, H2, e2, h2, hy⟩ := stepK_from h1 callF P o.op o.dst H _ y hy
          rw [e2]
          obtain ⟨a3, al3, H3, e3, h3, hy⟩ := runDrawK_from is ds es a2 al2 H2 k hd h2 y hy
          refine ⟨a3, al3, H3, ?_, h3, hy⟩
          cases hc : cls P o.op with
          | E => exact absurd hc n1
          | R => exact absurd hc n2
          | P => exact e3
          | A => exact e3
      · rw [hw]
        obtain ⟨al2, h2, hy⟩ := putL_from h1 hy
        exact runDrawK_from is ds es _ al2 H k hd h2 y hy

noncomputable def regionK (callF : CallF) (P : Program) (n : Nat) (ops : Array Oper) (draw : Bool) (al : Al) (H : AHeap) (k : Al → AHeap → Option γ) : Option γ :=
  match draw with
  | false => runListK callF P n ops ops.toList al H k
  | true => match drawOk P ops (canon P ops) with
    | true => runDrawK callF P n ops (ancOf ops) (canon P ops) [] al H k
    | false => none

theorem regionK_from {callF : CallF} {n : Nat} {ops : Array Oper} {draw : Bool} {a : AAct} {al : Al} {H : AHeap} {k : Al → AHeap → Option γ} {y : γ} (h : Rep n a al) (hy : regionK callF P n ops draw al H k = some y) :
    ∃ a' al' H', regionA callF P ops draw a H = some (.normal, a', H') ∧ Rep n a' al' ∧ k al' H' = some y := by
  unfold regionK at hy
  unfold regionA
  split at hy
  · obtain ⟨a', al', H', h1, h2, h3⟩ := runListK_from _ _ _ _ _ h y hy
    exact ⟨a', al', H', by simp only [h1, asNormal], h2, h3⟩
  · split at hy
    · rename_i hok
      obtain ⟨a', al', H', h1, h2, h3⟩ := runDrawK_from _ [] [] _ _ _ _ .nil h y hy
      exact ⟨a', al', H', by simp only [hok, h1, asNormal], h2, h3⟩
    · simp at hy

noncomputable def keptL (ks : List Nat) (tmps : List Value) : List Value := List.rec [] (fun k _ ih => getT tmps k :: ih) ks
noncomputable def keptA (ks : List Nat) (al : Al) : List Value := List.rec [] (fun k _ ih => getA al k :: ih) ks

theorem kept_rep {n : Nat} {a : AAct} {al : Al} (h : Rep n a al) : ∀ ks : List Nat, keptL ks a.tmps = keptA ks al
  | [] => rfl
  | k :: ks => by
    show getT a.tmps k :: keptL ks a.tmps = getA al k :: keptA ks al
    rw [h.get, kept_rep h ks]

/-- A frame of so many slots in which the slots ks hold the values vs. -/
noncomputable def frameG (n : Nat) (vs : List Value) : List Nat → Nat → List Value
  | [], _ => List.replicate n undef
  | k :: ks, i => setT (frameG n vs ks (i + 1)) k (getT vs i)
noncomputable def frameA (vs : List Value) : List Nat → Nat → Al
  | [], _ => []
  | k :: ks, i => (k, getT vs i) :: frameA vs ks (i + 1)

theorem frameG_len (n : Nat) (vs : List Value) : ∀ (ks : List Nat) (i : Nat), (frameG n vs ks i).length = n
  | [], i => by simp [frameG]
  | k :: ks, i => by simp [frameG, setT_eq, frameG_len n vs ks (i + 1)]

theorem frame_get (n : Nat) (vs : List Value) (t : Nat) : ∀ (ks : List Nat) (i : Nat), (∀ k ∈ ks, k < n) → getT (frameG n vs ks i) t = getA (frameA vs ks i) t
  | [], i, _ => by
    rw [getT_eq]
    simp only [frameG, frameA, getA_nil, List.getD]
    cases h : (List.replicate n undef)[t]? with
    | none => rfl
    | some v =>
      have := List.mem_of_getElem? h
      simp only [List.mem_replicate] at this
      rw [this.2]; rfl
  | k :: ks, i, h => by
    have hk : k < (frameG n vs ks (i + 1)).length := by rw [frameG_len]; exact h k (by simp)
    simp only [frameG, frameA]
    rw [getA_cons, getT_eq, setT_eq]
    by_cases ht : k = t
    · subst ht
      simp [List.getD, hk]
    · rw [if_neg ht, ← frame_get n vs t ks (i + 1) fun k hk => h k (by simp [hk]), getT_eq]
      simp only [List.getD, List.getElem?_set_ne ht]
      rw [getT_eq, List.getD]

theorem frame_rep (n : Nat) (vs : List Value) (ks : List Nat) (h : ∀ k ∈ ks, k < n) : Rep n ⟨frameG n vs ks 0, []⟩ (frameA vs ks 0) :=
  ⟨by rw [len_eq]; exact frameG_len n vs ks 0, rfl, fun t => frame_get n vs t ks 0 h⟩

noncomputable def natK {α : Type} (n : Nat) (x : α) (f : Nat → α) : α := Nat.rec x (fun m _ => f m) n

/-- The rounds of a loop. -/
noncomputable def iterL (b : List Value → AHeap → Option (Nat × List Value × AHeap)) (n : Nat) : List Value → AHeap → Option (Nat × List Value × AHeap) :=
  Nat.rec (fun _ _ => none) (fun _ ih vs H => (b vs H).bind fun p => natK p.1 (ih p.2.1 p.2.2) fun j => some (j, p.2.1, p.2.2)) n

/-- A loop that is taken by what its rounds come to: its exits, the slots that it keeps, what one round reckons. -/
structure HookD where
  es : List AExit
  ks : List Nat
  b : List Value → AHeap → Option (Nat × List Value × AHeap)

abbrev HookK := Nat → Option HookD

noncomputable def pickK (es : List AExit) : Nat → Al → AHeap → KK γ → Option γ :=
  List.rec (fun _ _ _ _ => none) (fun e _ ih j al H k => natK j (k e al H) fun m => ih m al H k) es

theorem pickK_from : ∀ (es : List AExit) (j : Nat) (al : Al) (H : AHeap) (k : KK γ) (y : γ), pickK es j al H k = some y → ∃ e, es[j]? = some e ∧ k e al H = some y
  | [], j, al, H, k, y, h => by simp [pickK] at h
  | e :: es, 0, al, H, k, y, h => ⟨e, rfl, h⟩
  | e :: es, j + 1, al, H, k, y, h => by
    have h : pickK es j al H k = some y := h
    obtain ⟨e', h1, h2⟩ := pickK_from es j al H k y h
    exact ⟨e', by simpa using h1, h2⟩

noncomputable def hookK (g : Option HookD) (al : Al) (H : AHeap) (k : KK γ) : Option γ :=
  match g with
  | some d => (iterL d.b rounds (keptA d.ks al) H).bind fun p => pickK d.es p.1 (frameA p.2.1 d.ks 0) p.2.2 k
  | none => none

/-- A list of pairs, asked. -/
noncomputable def askL {α : Type} (l : List (Nat × α)) (i : Nat) : Option α := List.rec none (fun p _ ih => match Nat.beq p.1 i with
  | true => some p.2
  | false => ih) l

theorem askL_mem {α : Type} {i : Nat} {x : α} : ∀ {l : List (Nat × α)}, askL l i = some x → (i, x) ∈ l
  | [], h => by simp [askL] at h
  | p :: l, h => by
    have h : (match Nat.beq p.1 i with
      | true => some p.2
      | false => askL l i) = some x := h
    split at h
    · rename_i hb
      simp only [Option.some.injEq] at h
      rw [← h, ← Nat.eq_of_beq_eq_true hb]; simp
    · exact List.mem_cons_of_mem _ (askL_mem h)

/-- The slots that loops and tails keep. -/
noncomputable def keepOf (loops cuts : List (Nat × List Nat)) (j : Nat) : Option (List Nat) := match j % 2 with
  | 0 => askL loops (j / 2)
  | _ => askL cuts (j / 2)

theorem keepOf_loop (loops cuts : List (Nat × List Nat)) (i : Nat) : keepOf loops cuts (2 * i) = askL loops i := by
  unfold keepOf
  have h1 : 2 * i % 2 = 0 := by omega
  have h2 : 2 * i / 2 = i := by omega
  simp only [h1, h2]
theorem keepOf_cut (loops cuts : List (Nat × List Nat)) (i : Nat) : keepOf loops cuts (2 * i + 1) = askL cuts i := by
  unfold keepOf
  have h1 : (2 * i + 1) % 2 = 1 := by omega
  have h2 : (2 * i + 1) / 2 = i := by omega
  simp only [h1, h2]

/-- Are all below? -/
def allBelow (ks : List Nat) (n : Nat) : Bool := ks.all fun k => Nat.blt k n

theorem allBelow_mem {ks : List Nat} {n : Nat} (h : allBelow ks n = true) : ∀ k ∈ ks, k < n := fun k hk => by
  have := List.all_eq_true.1 h k hk
  rw [Nat_blt_eq, decide_eq_true_iff] at this
  exact this

noncomputable def cutK (g : Option (List Nat)) (al : Al) : Al := match g with
  | some ks => frameA (keptA ks al) ks 0
  | none => al

noncomputable def seqK (g : Option (List Nat)) (k : KK γ) (y : Al → AHeap → KK γ → Option γ) : KK γ
  | .normal, al, H => y (cutK g al) H k
  | .exit id, al, H => k (.exit id) al H
  | .ret, al, H => k .ret al H

def blockK (id : Nat) (k : KK γ) : KK γ
  | .normal, al, H => k .normal al H
  | .exit id', al, H => match Nat.beq id' id with
    | true => k .normal al H
    | false => k (.exit id') al H
  | .ret, al, H => k .ret al H

noncomputable def condK (c : Operand) (al : Al) (x y : Al → Option γ) : Option γ :=
  match c with
  | .tmp d => boolK (getA al d) (x ((d, .bool true) :: al)) (y ((d, .bool false) :: al))
  | .const v => boolK (constA v) (x al) (y al)
  | _ => none

noncomputable def execK (callF : CallF) (P : Program) (n : Nat) (cuts : List (Nat × List Nat)) (hook : HookK) (c : Code) : Al → AHeap → KK γ → Option γ :=
  Code.rec
    (fun al H k => k .normal al H)
    (fun _ ops draw al H k => regionK callF P n ops draw al H fun al H => k .normal al H)
    (fun _ y ihx ihy al H k => ihx al H (seqK (askL cuts (firstRegion y)) k ihy))
    (fun c _ _ ihx ihy al H k => condK c al (fun al => ihx al H k) (fun al => ihy al H k))
    (fun id _ ih al H k => ih al H (blockK id k))
    (fun x _ al H k => hookK (hook (firstRegion x)) al H k)
    (fun _ _ _ _ _ _ _ _ _ => none)
    (fun id al H k => k (.exit id) al H)
    (fun _ ih al H k => ih al H k)
    (fun _ al H k => k .normal al H)
    (fun _ _ _ _ => none)
    (fun al H k => k .ret al H)
    (fun _ _ _ _ => none)
    c

/-- The outermost loops of code. -/
def loopsOf : Code → List Code
  | .seq x y => loopsOf x ++ loopsOf y
  | .cond _ x y => loopsOf x ++ loopsOf y
  | .block _ x => loopsOf x
  | .scope x => loopsOf x
  | .loop x => [x]
  | _ => []

theorem keptL_get (tmps : List Value) : ∀ (ks : List Nat) (i k : Nat), ks[i]? = some k → getT (keptL ks tmps) i = getT tmps k
  | [], i, k, h => by simp at h
  | k' :: ks, 0, k, h => by simp at h; subst h; rfl
  | k' :: ks, i + 1, k, h => keptL_get tmps ks i k (by simpa using h)

theorem frameG_kept (n : Nat) (tmps : List Value) (all : List Nat) : ∀ (ks : List Nat) (i : Nat), (∀ j k : Nat, ks[j]? = some k → all[i + j]? = some k) → frameG n (keptL all tmps) ks i = frameOf n (keepT tmps ks)
  | [], i, _ => rfl
  | k :: ks, i, h => by
    simp only [frameG, keepT, frameOf]
    rw [frameG_kept n tmps all ks (i + 1) fun j k' hj => by rw [show i + 1 + j = i + (j + 1) by omega]; exact h (j + 1) k' (by simpa using hj)]
    rw [keptL_get tmps all i k (by simpa using h 0 k rfl)]

theorem norm_frame (a : AAct) (ks : List Nat) : a.norm (some ks) = ⟨frameG (len a.tmps) (keptL ks a.tmps) ks 0, a.defers⟩ := by
  simp only [AAct.norm]
  rw [frameG_kept (len a.tmps) a.tmps ks ks 0 (fun j k h => by rw [Nat.zero_add]; exact h)]

/-- The loop does what its hook says. -/
def LoopOk (callF : CallF) (P : Program) (n : Nat) (loops cuts : List (Nat × List Nat)) (hook : HookK) (x : Code) : Prop :=
  ∀ d, hook (firstRegion x) = some d → (∀ k ∈ d.ks, k < n) ∧ ∀ (a : AAct) H j vs H', a.defers = [] → len a.tmps = n → iterL d.b rounds (keptL d.ks a.tmps) H = some (j, vs, H') →
    ∃ e, d.es[j]? = some e ∧ execA callF P (keepOf loops cuts) noHook (.loop x) a H = some (e, ⟨frameG n vs d.ks 0, []⟩, H')

theorem execK_from {callF : CallF} {n : Nat} {loops cuts : List (Nat × List Nat)} (hcut : ∀ p ∈ cuts, allBelow p.2 n = true) {hook : HookK} : ∀ (c : Code), (∀ x ∈ loopsOf c, LoopOk callF P n loops cuts hook x) → ∀ (a : AAct) (al : Al) (H : AHeap) (k : KK γ) (y : γ), Rep n a al → execK callF P n cuts hook c al H k = some y →
    ∃ e a' al' H', execA callF P (keepOf loops cuts) noHook c a H = some (e, a', H') ∧ Rep n a' al' ∧ k e al' H' = some y := by
  intro c
  induction c with
  | skip => intro _ a al H k y hR h; exact ⟨.normal, a, al, H, rfl, hR, h⟩
  | region id ops draw =>
    intro _ a al H k y hR h
    obtain ⟨a', al', H', h1, h2, h3⟩ := regionK_from (k := fun al H => k .normal al H) hR h
    exact ⟨.normal, a', al', H', h1, h2, h3⟩
  | seq c1 c2 ih1 ih2 =>
    intro hl a al H k y hR h
    have h : execK callF P n cuts hook c1 al H (seqK (askL cuts (firstRegion c2)) k (execK callF P n cuts hook c2)) = some y := h
    obtain ⟨e, a1, al1, H1, h1, r1, h2⟩ := ih1 (fun x hx => hl x (by simp [loopsOf, hx])) a al H _ y hR h
    cases e with
    | normal =>
      have hR2 : Rep n (a1.norm (askL cuts (firstRegion c2))) (cutK (askL cuts (firstRegion c2)) al1) := by
        cases hc : askL cuts (firstRegion c2) with
        | none => exact r1
        | some ks =>
          rw [norm_frame, r1.len, r1.defers, kept_rep r1]
          exact frame_rep n _ ks (allBelow_mem (hcut _ (askL_mem hc)))
      obtain ⟨e2, a2, al2, H2, h3, r2, h4⟩ := ih2 (fun x hx => hl x (by simp [loopsOf, hx])) _ _ H1 k y hR2 h2
      refine ⟨e2, a2, al2, H2, ?_, r2, h4⟩
      show thenA (execA callF P (keepOf loops cuts) noHook c1 a H) (fun a H => execA callF P (keepOf loops cuts) noHook c2 (a.norm (keepOf loops cuts (2 * firstRegion c2 + 1))) H) = _
      rw [h1, keepOf_cut]; exact h3
    | exit id =>
      refine ⟨.exit id, a1, al1, H1, ?_, r1, h2⟩
      show thenA (execA callF P (keepOf loops cuts) noHook c1 a H) _ = _
      rw [h1]; rfl
    | ret =>
      refine ⟨.ret, a1, al1, H1, ?_, r1, h2⟩
      show thenA (execA callF P (keepOf loops cuts) noHook c1 a H) _ = _
      rw [h1]; rfl
  | cond c c1 c2 ih1 ih2 =>
    intro hl a al H k y hR h
    have h : condK c al (fun al => execK callF P n cuts hook c1 al H k) (fun al => execK callF P n cuts hook c2 al H k) = some y := h
    have key : ∃ al', Rep n a al' ∧ ((a.eval P c = .bool true ∧ execK callF P n cuts hook c1 al' H k = some y) ∨ (a.eval P c = .bool false ∧ execK callF P n cuts hook c2 al' H k = some y)) := by
      rw [hR.eval]
      unfold condK at h
      split at h
      · rename_i d
        unfold boolK at h
        split at h
        · rename_i hb; exact ⟨_, hR.know hb, .inl ⟨hb, h⟩⟩
        · rename_i hb; exact ⟨_, hR.know hb, .inr ⟨hb, h⟩⟩
        · simp at h
      · unfold boolK at h
        split at h
        · rename_i hb; exact ⟨al, hR, .inl ⟨hb, h⟩⟩
        · rename_i hb; exact ⟨al, hR, .inr ⟨hb, h⟩⟩
        · simp at h
      · simp at h
    obtain ⟨al1, r1, key⟩ := key
    rcases key with ⟨hb, h⟩ | ⟨hb, h⟩
    · obtain ⟨e2, a2, al2, H2, h3, r2, h4⟩ := ih1 (fun x hx => hl x (by simp [loopsOf, hx])) a al1 H k y r1 h
      refine ⟨e2, a2, al2, H2, ?_, r2, h4⟩
      show condA (a.eval P c) _ _ = _
      rw [hb]; exact h3
    · obtain ⟨e2, a2, al2, H2, h3, r2, h4⟩ := ih2 (fun x hx => hl x (by simp [loopsOf, hx])) a al1 H k y r1 h
      refine ⟨e2, a2, al2, H2, ?_, r2, h4⟩
      show condA (a.eval P c) _ _ = _
      rw [hb]; exact h3
  | block id x ih =>
    intro hl a al H k y hR h
    have h : execK callF P n cuts hook x al H (blockK id k) = some y := h
    obtain ⟨e, a1, al1, H1, h1, r1, h2⟩ := ih (fun x hx => hl x (by simpa [loopsOf] using hx)) a al H _ y hR h
    have hshow : ∀ r, inBlockA id (execA callF P (keepOf loops cuts) noHook x a H) = r → execA callF P (keepOf loops cuts) noHook (.block id x) a H = r := fun r h => h
    cases e with
    | normal => exact ⟨.normal, a1, al1, H1, hshow _ (by rw [h1]; rfl), r1, h2⟩
    | exit id' =>
      have h2 : (match Nat.beq id' id with
        | true => k .normal al1 H1
        | false => k (.exit id') al1 H1) = some y := h2
      cases hb : Nat.beq id' id with
      | true => rw [hb] at h2; exact ⟨.normal, a1, al1, H1, hshow _ (by rw [h1]; simp only [inBlockA, hb]), r1, h2⟩
      | false => rw [hb] at h2; exact ⟨.exit id', a1, al1, H1, hshow _ (by rw [h1]; simp only [inBlockA, hb]), r1, h2⟩
    | ret => exact ⟨.ret, a1, al1, H1, hshow _ (by rw [h1]; rfl), r1, h2⟩
  | loop x ih =>
    intro hl a al H k y hR h
    have h : hookK (hook (firstRegion x)) al H k = some y := h
    unfold hookK at h
    split at h
    · rename_i d hg
      obtain ⟨hks, hlo⟩ := hl x (by simp [loopsOf]) d hg
      cases hr : iterL d.b rounds (keptA d.ks al) H with
      | none => rw [hr] at h; simp at h
      | some p =>
        obtain ⟨j, vs, H'⟩ := p
        rw [hr] at h
        simp only [Option.bind_some] at h
        obtain ⟨e, h1, h2⟩ := pickK_from d.es j _ H' k y h
        obtain ⟨e', h3, h4⟩ := hlo a H j vs H' hR.defers hR.len (by rw [kept_rep hR]; exact hr)
        rw [h1] at h3
        simp only [Option.some.injEq] at h3; subst h3
        exact ⟨e, _, _, H', h4, frame_rep n vs d.ks hks, h2⟩
    · simp at h
  | rangeFunc f ps x y _ _ => intro _ a al H k y hR h; have h : (none : Option γ) = some y := h; simp at h
  | exit id => intro _ a al H k y hR h; exact ⟨.exit id, a, al, H, rfl, hR, h⟩
  | scope x ih =>
    intro hl a al H k y hR h
    exact ih (fun x hx => hl x (by simpa [loopsOf] using hx)) a al H k y hR h
  | label l => intro _ a al H k y hR h; exact ⟨.normal, a, al, H, rfl, hR, h⟩
  | goto l => intro _ a al H k y hR h; have h : (none : Option γ) = some y := h; simp at h
  | ret => intro _ a al H k y hR h; exact ⟨.ret, a, al, H, rfl, hR, h⟩
  | refuse s => intro _ a al H k y hR h; have h : (none : Option γ) = some y := h; simp at h

end Go.Abs

namespace Go.Abs

variable {P : Program}

def sameExit : AExit → AExit → Bool
  | .normal, .normal => true
  | .exit i, .exit j => Nat.beq i j
  | .ret, .ret => true
  | _, _ => false

theorem sameExit_eq {e f : AExit} (h : sameExit e f = true) : e = f := by
  unfold sameExit at h
  split at h
  · rfl
  · rw [Nat.eq_of_beq_eq_true h]
  · rfl
  · simp at h

noncomputable def exitAt (e : AExit) (es : List AExit) : Option Nat := List.rec none (fun f _ ih => match sameExit e f with
  | true => some 0
  | false => ih.map Nat.succ) es

theorem exitAt_get {e : AExit} : ∀ {es : List AExit} {j : Nat}, exitAt e es = some j → es[j]? = some e
  | [], j, h => by simp [exitAt] at h
  | f :: es, j, h => by
    have h : (match sameExit e f with
      | true => some 0
      | false => (exitAt e es).map Nat.succ) = some j := h
    split at h
    · rename_i hs
      simp only [Option.some.injEq] at h; subst h
      rw [sameExit_eq hs]; rfl
    · cases hr : exitAt e es with
      | none => rw [hr] at h; simp at h
      | some i =>
        rw [hr] at h
        simp only [Option.map_some, Option.some.injEq] at h; subst h
        simpa using exitAt_get hr

/-- Which of the exits: none is the first. -/
noncomputable def exitNo (es : List AExit) : AExit → Option Nat
  | .normal => some 0
  | .exit id => (exitAt (.exit id) es).map Nat.succ
  | .ret => (exitAt .ret es).map Nat.succ

/-- The end of one round. -/
noncomputable def finK (es : List AExit) (ks : List Nat) : KK (Nat × List Value × AHeap) := fun e al H =>
  match exitNo es e with
  | some j => some (j, keptA ks al, H)
  | none => none

theorem fin_inv {es : List AExit} {ks : List Nat} {e : AExit} {al : Al} {H : AHeap} {j : Nat} {vs : List Value} {H' : AHeap} (h : finK es ks e al H = some (j, vs, H')) :
    exitNo es e = some j ∧ vs = keptA ks al ∧ H' = H := by
  unfold finK at h
  split at h
  · rename_i j' hj
    simp only [Option.some.injEq, Prod.mk.injEq] at h
    obtain ⟨rfl, rfl, rfl⟩ := h
    exact ⟨hj, rfl, rfl⟩
  · simp at h

theorem iterL_zero (b : List Value → AHeap → Option (Nat × List Value × AHeap)) (vs : List Value) (H : AHeap) : iterL b 0 vs H = none := rfl
theorem iterL_succ (b : List Value → AHeap → Option (Nat × List Value × AHeap)) (m : Nat) (vs : List Value) (H : AHeap) : iterL b (m + 1) vs H = (b vs H).bind fun p => natK p.1 (iterL b m p.2.1 p.2.2) fun j => some (j, p.2.1, p.2.2) := rfl

theorem iter_loop {callF : CallF} {n : Nat} {loops cuts : List (Nat × List Nat)} (hcut : ∀ p ∈ cuts, allBelow p.2 n = true) {hook : HookK} {x : Code} {ks : List Nat} {es : List AExit} {b : List Value → AHeap → Option (Nat × List Value × AHeap)} (hks : ∀ k ∈ ks, k < n)
    (hin : ∀ x' ∈ loopsOf x, LoopOk callF P n loops cuts hook x') (hb : ∀ vs H y, b vs H = some y → execK callF P n cuts hook x (frameA vs ks 0) H (finK es ks) = some y) :
    ∀ (m : Nat) (vs : List Value) (H : AHeap) (j : Nat) (vs' : List Value) (H' : AHeap), iterL b m vs H = some (j, vs', H') →
      ∃ e, es[j]? = some e ∧ loopA (some ks) (execA callF P (keepOf loops cuts) noHook x) m ⟨frameG n vs ks 0, []⟩ H = some (e, ⟨frameG n vs' ks 0, []⟩, H')
  | 0, vs, H, j, vs', H', h => by rw [iterL_zero] at h; simp at h
  | m + 1, vs, H, j, vs', H', h => by
    rw [iterL_succ] at h
    cases hr : b vs H with
    | none => rw [hr] at h; simp at h
    | some p =>
      obtain ⟨j1, vs1, H1⟩ := p
      rw [hr] at h
      simp only [Option.bind_some] at h
      obtain ⟨e1, a1, al1, H1', h1, r1, h2⟩ := execK_from hcut x hin _ _ _ _ _ (frame_rep n vs ks hks) (hb vs H _ hr)
      obtain ⟨d3, d4, d5⟩ := fin_inv h2
      subst d5
      have hnorm : a1.norm (some ks) = ⟨frameG n vs1 ks 0, []⟩ := by rw [norm_frame, r1.len, r1.defers, kept_rep r1, d4]
      have hl : loopA (some ks) (execA callF P (keepOf loops cuts) noHook x) (m + 1) ⟨frameG n vs ks 0, []⟩ H = thenA (normRes (some ks) (execA callF P (keepOf loops cuts) noHook x ⟨frameG n vs ks 0, []⟩ H)) (loopA (some ks) (execA callF P (keepOf loops cuts) noHook x) m) := rfl
      rw [hl, h1]
      have hnr : normRes (some ks) (some (e1, a1, H1)) = some (e1, ⟨frameG n vs1 ks 0, []⟩, H1) := by simp only [normRes, hnorm]
      rw [hnr]
      cases j1 with
      | zero =>
        have he : e1 = .normal := by
          cases e1 with
          | normal => rfl
          | exit id => simp [exitNo] at d3
          | ret => simp [exitNo] at d3
        subst he
        exact iter_loop hcut hks hin hb m vs1 H1 j vs' H' h
      | succ i =>
        have h : (i, vs1, H1) = (j, vs', H') := Option.some.inj h
        simp only [Prod.mk.injEq] at h
        obtain ⟨rfl, rfl, rfl⟩ := h
        cases e1 with
        | normal => simp [exitNo] at d3
        | exit id =>
          simp only [exitNo, Option.map_eq_some_iff, Nat.succ_eq_add_one, Nat.add_right_cancel_iff, exists_eq_right] at d3
          exact ⟨_, exitAt_get d3, rfl⟩
        | ret =>
          simp only [exitNo, Option.map_eq_some_iff, Nat.succ_eq_add_one, Nat.add_right_cancel_iff, exists_eq_right] at d3
          exact ⟨_, exitAt_get d3, rfl⟩

/-- A loop does what its rounds come to. -/
theorem loop_ok {callF : CallF} {n : Nat} {loops cuts : List (Nat × List Nat)} (hcut : ∀ p ∈ cuts, allBelow p.2 n = true) {hook : HookK} {x : Code} (d : HookD)
    (hk : askL loops (firstRegion x) = some d.ks) (hh : hook (firstRegion x) = some d) (hks : allBelow d.ks n = true)
    (hin : ∀ x' ∈ loopsOf x, LoopOk callF P n loops cuts hook x') (hb : ∀ vs H y, d.b vs H = some y → execK callF P n cuts hook x (frameA vs d.ks 0) H (finK d.es d.ks) = some y) : LoopOk callF P n loops cuts hook x := by
  intro d' hg
  rw [hh] at hg
  simp only [Option.some.injEq] at hg
  subst hg
  have hks := allBelow_mem hks
  refine ⟨hks, fun a H j vs H' hd hn hr => ?_⟩
  obtain ⟨e, h1, h2⟩ := iter_loop (P := P) hcut hks hin hb rounds _ _ _ _ _ hr
  refine ⟨e, h1, ?_⟩
  have : execA callF P (keepOf loops cuts) noHook (.loop x) a H = hookOr (noHook (firstRegion x)) (fun a H => loopA (keepOf loops cuts (2 * firstRegion x)) (execA callF P (keepOf loops cuts) noHook x) rounds (a.norm (keepOf loops cuts (2 * firstRegion x))) H) a H := rfl
  rw [this]
  simp only [hookOr]
  rw [keepOf_loop, hk, norm_frame, hn, hd]
  exact h2

/-! ## The loops of code, one by one -/

noncomputable def loopN (c : Code) (i : Nat) : Code := match nth (loopsOf c) i with
  | some x => x
  | none => .skip

theorem loops_none {c : Code} {p : Code → Prop} (h : loopsOf c = []) : ∀ x ∈ loopsOf c, p x := by rw [h]; intro x hx; simp at hx
theorem loops_all {c : Code} {l : List Code} {p : Code → Prop} (h : loopsOf c = l) (hl : ∀ x ∈ l, p x) : ∀ x ∈ loopsOf c, p x := by rw [h]; exact hl
theorem all_nil {p : Code → Prop} : ∀ x ∈ ([] : List Code), p x := by intro x hx; simp at hx
theorem all_cons {p : Code → Prop} {y : Code} {l : List Code} (h : p y) (hl : ∀ x ∈ l, p x) : ∀ x ∈ y :: l, p x := by
  intro x hx
  rcases List.mem_cons.1 hx with rfl | hx
  · exact h
  · exact hl x hx

/-- The tail of a row of codes. -/
def seqB : Code → Code
  | .seq _ b => b
  | _ => .skip

def cutsOk (cuts : List (Nat × List Nat)) (n : Nat) : Bool := cuts.all fun p => allBelow p.2 n
theorem cutsOk_mem {cuts : List (Nat × List Nat)} {n : Nat} (h : cutsOk cuts n = true) : ∀ p ∈ cuts, allBelow p.2 n = true := fun p hp => List.all_eq_true.1 h p hp

/-! ## Functions -/

noncomputable def fnOf (P : Program) (f : FuncId) : Func := match nth P.funcs.toList f with
  | some fn => fn
  | none => default
def codeIn (fn : Func) : Code := match fn.body with
  | some c => c
  | none => .skip
noncomputable def hasBody (P : Program) (f : FuncId) : Bool := match nth P.funcs.toList f with
  | some fn => fn.body.isSome
  | none => false

noncomputable def resultsL (P : Program) (al : Al) (H : AHeap) : List ResultVar → Option (List Value)
  | [] => some []
  | .tmp t :: rs => consOpt (some (getA al t)) (resultsL P al H rs)
  | .cell x t :: rs => consOpt (loadA (loadT P t) (getA al x) H) (resultsL P al H rs)

theorem resultsL_eq {n : Nat} {a : AAct} {al : Al} {H : AHeap} (h : Rep n a al) : ∀ rs : List ResultVar, resultsA P a H rs = resultsL P al H rs
  | [] => rfl
  | .tmp t :: rs => by simp only [resultsA, resultsL, h.get, resultsL_eq h rs]
  | .cell x t :: rs => by simp only [resultsA, resultsL, h.get, resultsL_eq h rs]

noncomputable def retK (P : Program) (rs : List ResultVar) : KK (Value × AHeap) := fun e al H =>
  match e with
  | .exit _ => none
  | _ => returnA (resultsL P al H rs) H

noncomputable def argsA : List Value → Nat → Al
  | [], _ => []
  | x :: xs, i => (i, x) :: argsA xs (i + 1)

theorem argsA_get : ∀ (xs : List Value) (i t : Nat), getA (argsA xs i) t = if t < i then undef else xs.getD (t - i) undef
  | [], i, t => by simp [argsA, getA_nil]
  | x :: xs, i, t => by
    simp only [argsA]
    rw [getA_cons, argsA_get xs (i + 1) t]
    by_cases h : i = t
    · subst h; simp
    · rw [if_neg h]
      by_cases h1 : t < i
      · rw [if_pos (by omega), if_pos h1]
      · rw [if_neg (by omega), if_neg h1, show t - i = (t - (i + 1)) + 1 by omega]
        simp [List.getD]

theorem args_rep {n : Nat} {args : List Value} (h : args.length ≤ n) : Rep n ⟨padTo n args, []⟩ (argsA args 0) := by
  refine ⟨?_, rfl, fun t => ?_⟩
  · simp only [padTo]
    rw [len_eq, app_eq, len_eq]; simp; omega
  · rw [argsA_get, if_neg (by omega), getT_eq]
    simp only [padTo, Nat.sub_zero]
    rw [app_eq, len_eq, List.getD, List.getD, List.getElem?_append]
    split
    · rfl
    · rename_i hlt
      rw [List.getElem?_eq_none (l := args) (by omega)]
      cases hx : (List.replicate (n - args.length) undef)[t - args.length]? with
      | none => rfl
      | some v =>
        have := List.mem_of_getElem? hx
        simp only [List.mem_replicate] at this
        rw [this.2]; rfl

/-- A function's call, by what its body reckons. -/
theorem call_from {prim : Prim} {keep : Keep} {loops cuts : List (Nat × List Nat)} {hook : HookK} {n m : Nat} {f : FuncId} (hk : keep f = keepOf loops cuts) (hcut : ∀ p ∈ cuts, allBelow p.2 m = true) (hp : prim f = none) (hf : hasBody P f = true) (hm : (fnOf P f).ntmps = m) (hl : ∀ x ∈ loopsOf (codeIn (fnOf P f)), LoopOk (callA P prim keep noHooks n) P m loops cuts hook x)
    {args : List Value} {H : AHeap} {y : Value × AHeap} (ha : Nat.ble args.length m = true) (h : execK (callA P prim keep noHooks n) P m cuts hook (codeIn (fnOf P f)) (argsA args 0) H (retK P (fnOf P f).results.toList) = some y) :
    callA P prim keep noHooks (n + 1) f args H = some y := by
  have hshow : callA P prim keep noHooks (n + 1) f args H = leaveA (callA P prim keep noHooks n) P keep noHooks (bodyA (callA P prim keep noHooks n) P keep noHooks f args H) := by
    simp only [callA, hp]
  rw [hshow]
  obtain ⟨e, a', al', H', h1, r1, h2⟩ := execK_from hcut _ hl _ _ _ _ _ (args_rep (Nat.le_of_ble_eq_true ha)) h
  cases hfn : nth P.funcs.toList f with
  | none => simp [hasBody, hfn] at hf
  | some fn =>
    have e1 : fnOf P f = fn := by simp only [fnOf, hfn]
    rw [e1] at h1 h2 hm
    subst hm
    cases hc : fn.body with
    | none => simp [hasBody, hfn, hc] at hf
    | some c =>
      have e2 : codeIn fn = c := by simp only [codeIn, hc]
      rw [e2] at h1
      have key : (e = .normal ∨ e = .ret) ∧ ∃ vs, resultsA P a' H' fn.results.toList = some vs ∧ y = (oneOrMore vs, H') := by
        unfold retK at h2
        split at h2
        · simp at h2
        · rename_i hne
          refine ⟨?_, ?_⟩
          · cases e with
            | normal => exact .inl rfl
            | exit id => exact absurd rfl (hne id)
            | ret => exact .inr rfl
          · rw [← resultsL_eq r1] at h2
            unfold returnA at h2
            split at h2
            · rename_i vs hv
              exact ⟨vs, hv, (Option.some.inj h2).symm⟩
            · simp at h2
      obtain ⟨he, vs, hv, rfl⟩ := key
      have hbody : bodyA (callA P prim keep noHooks n) P keep noHooks f args H = some (fn, a', H') := by
        simp only [bodyA, hfn, hc, hk, h1]
        rcases he with rfl | rfl <;> rfl
      rw [hbody]
      simp only [leaveA, r1.defers, runDefers, hv, returnA]

/-- The cells of a type's zero value. -/
noncomputable def zeroC (P : Program) (t : TypeId) : List Value := match zeroT P t with
  | some z => cellsOf z
  | none => []

end Go.Abs

namespace Go.Abs

variable {P : Program}

/-- Blocks that were made and are nobody's, and cells of one block that were set. -/
theorem post_garbage {φ : Phi} {H : AHeap} {w w1 : World} (h : Rel φ H w) (hsz : w.heap.size ≤ w1.heap.size) (hold : ∀ b, b < w.heap.size → w1.heap[b]? = w.heap[b]?) (hos : w1.os = w.os) (hout : w1.output = w.output) (htape : w1.tape = w.tape) :
    Rel φ H w1 ∧ Step φ H w φ H w1 := by
  refine ⟨⟨fun i B hB => ?_, h.inj, h.lt⟩, ⟨fun _ _ => rfl, Nat.le_refl _, hsz, fun b hb hi => ⟨hold b hb, hi⟩, hos, hout, htape, fun _ _ h _ => h⟩⟩
  obtain ⟨b, c, l, g1, g2⟩ := h.blk i B hB
  exact ⟨b, c, l, g1, g2.mono (fun _ _ h => h) (hold b g2.lt)⟩

theorem heap_alloc (w : World) (o : Obj) : (w.alloc o).heap = w.heap.push o := rfl

theorem alloc_old (w : World) (o : Obj) {b : Nat} (hb : b < w.heap.size) : (w.alloc o).heap[b]? = w.heap[b]? := by
  rw [heap_alloc, Array.getElem?_push, if_neg (by omega)]

theorem Rel.store1 {φ : Phi} {H H' : AHeap} {w : World} (h : Rel φ H w) {i o b c l : Nat} {v u : Value} (hs : H.store ⟨i, o, none⟩ [v] = some H') (hp : φ i = some (b, c, l)) (hv : VRel φ v u) :
    Rel φ H' (w.setCell ⟨b, c + o, none⟩ u) ∧ Step φ H w φ H' (w.setCell ⟨b, c + o, none⟩ u) ∧ (∃ old, w.cell? ⟨b, c + o, none⟩ = some old) ∧ w.frozen? ⟨b, c + o, none⟩ = false ∧ b < w.heap.size := by
  obtain ⟨xs, h1, _, h3, h4, rfl⟩ := store_inv hs
  obtain ⟨b', c', l', h5, cs, e, f, h6, h7, h8, h9, h10⟩ := h.blk i _ h1
  rw [hp] at h5
  simp only [Option.some.injEq, Prod.mk.injEq] at h5
  obtain ⟨rfl, rfl, rfl⟩ := h5
  simp only [List.length_cons, List.length_nil] at h3
  obtain ⟨cs', g1, g2, g3⟩ := heap_setCells b [u] (c + o) w cs e f h6 (by simp; omega)
  have hlt : b < w.heap.size := by
    rcases Nat.lt_or_ge b w.heap.size with hh | hh
    · exact hh
    · rw [Array.getElem?_eq_none hh] at h6; simp at h6
  have key := h.turn (B := .cells (splice xs o [v])) h1 rfl rfl hp (turned_setCells b [u] (c + o) w) (BRel.splice (cs := cs) (us := [u]) _ g1 g2 h7 h8 h9 h10 (LRel.one hv) (by simp only [List.length_cons, List.length_nil]; omega) g3)
  refine ⟨key.1, key.2, ?_, ?_, hlt⟩
  · have hc : c + o < cs.size := by omega
    exact ⟨cs[c + o], by simp [World.cell?, h6]⟩
  · simp only [World.frozen?, h6]
    rcases h9 with hf | hf
    · simp; omega
    · simp; omega

end Go.Abs
