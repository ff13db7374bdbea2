/-
  PLAIN LEMMAS on what the abstract machine's operations come to: for reading the shallow texts.
-/
import Derived.Test.YtbomdnmkhegfnaaGreatDoorAbsTwo
import Derived.KernelRfl
import Derived.IntWalk
set_option linter.all false
namespace Go.Abs

/-! ## What is reckoned first -/

@[congr] theorem bind_congr1 {α β : Type} {x x' : Option α} {f : α → Option β} (h : x = x') : x.bind f = x'.bind f := by rw [h]
@[congr] theorem boolK_congr1 {γ : Type} {v v' : Value} {x y : Option γ} (h : v = v') : boolK v x y = boolK v' x y := by rw [h]
@[congr] theorem natK_congr1 {α : Type} {n n' : Nat} {x : α} {f : Nat → α} (h : n = n') : natK n x f = natK n' x f := by rw [h]
@[congr] theorem chkK_congr1 {γ : Type} {b b' : Bool} {x : Option γ} (h : b = b') : chkK b x = chkK b' x := by rw [h]

/-! Not by 'rfl' to the eye: else the kernel compares whole texts. -/
theorem bindS {α β : Type} (a : α) (f : α → Option β) : (some a).bind f = f a := Eq.trans rfl rfl
section
variable {γ : Type} {x y : Option γ}
theorem boolKT : boolK (.bool true) x y = x := Eq.trans rfl rfl
theorem boolKF : boolK (.bool false) x y = y := Eq.trans rfl rfl
theorem chkKT : chkK true x = x := Eq.trans rfl rfl
end
section
variable {α : Type} (x : α) (f : Nat → α)
theorem natK0 : natK 0 x f = x := Eq.trans rfl rfl
theorem natK1 : natK 1 x f = f 0 := Eq.trans rfl rfl
theorem natK2 : natK 2 x f = f 1 := Eq.trans rfl rfl
theorem natK3 : natK 3 x f = f 2 := Eq.trans rfl rfl
theorem natKS (n : Nat) : natK (n + 1) x f = f n := Eq.trans rfl rfl
end

section
variable {γ : Type} {x y : Option γ}
theorem boolK_true : boolK (.bool true) x y = x := rfl
theorem boolK_false : boolK (.bool false) x y = y := rfl
theorem boolK_pos {p : Prop} [Decidable p] (h : p) : boolK (.bool (decide p)) x y = x := by simp [h, boolK]
theorem boolK_neg {p : Prop} [Decidable p] (h : ¬p) : boolK (.bool (decide p)) x y = y := by simp [h, boolK]
theorem boolK_npos {p : Prop} [Decidable p] (h : p) : boolK (.bool (!decide p)) x y = y := by simp [h, boolK]
theorem boolK_nneg {p : Prop} [Decidable p] (h : ¬p) : boolK (.bool (!decide p)) x y = x := by simp [h, boolK]
theorem chkK_true : chkK true x = x := rfl
end
theorem natK_zero {α : Type} (x : α) (f : Nat → α) : natK 0 x f = x := rfl
theorem natK_succ {α : Type} (n : Nat) (x : α) (f : Nat → α) : natK (n + 1) x f = f n := rfl
theorem natK_one {α : Type} (x : α) (f : Nat → α) : natK 1 x f = f 0 := rfl
theorem natK_two {α : Type} (x : α) (f : Nat → α) : natK 2 x f = f 1 := rfl
theorem natK_three {α : Type} (x : α) (f : Nat → α) : natK 3 x f = f 2 := rfl

/-! ## Numbers -/

theorem sameKind_self (k : IntKind) : sameKind k k = true := (sameKind_eq k k).2 rfl

section
variable (P : Program) (t : TypeId) (ox oy : Operand) (k : IntKind) (a b : Int)
theorem bin_add : binA P .add t ox oy (.int k a) (.int k b) = some (.int k (k.wrap (a + b))) := by simp only [binA, intOp, sameKind_self, wrapI_eq]
theorem bin_sub : binA P .sub t ox oy (.int k a) (.int k b) = some (.int k (k.wrap (a - b))) := by simp only [binA, intOp, sameKind_self, wrapI_eq]
theorem bin_mul : binA P .mul t ox oy (.int k a) (.int k b) = some (.int k (k.wrap (a * b))) := by simp only [binA, intOp, sameKind_self, wrapI_eq]
theorem bin_eql : binA P .eql t ox oy (.int k a) (.int k b) = some (.bool (decide (a = b))) := by simp only [binA, intOp, sameKind_self, eqI_eq]; congr 2
theorem bin_neq : binA P .neq t ox oy (.int k a) (.int k b) = some (.bool (decide (a ≠ b))) := by
  simp only [binA, intOp, sameKind_self, eqI_eq]; congr 2; by_cases h : a = b <;> simp [h]
theorem bin_lss : binA P .lss t ox oy (.int k a) (.int k b) = some (.bool (decide (a < b))) := by simp only [binA, intOp, sameKind_self, ltI_eq]
theorem bin_leq : binA P .leq t ox oy (.int k a) (.int k b) = some (.bool (decide (a ≤ b))) := by
  simp only [binA, intOp, sameKind_self, ltI_eq]; congr 2; by_cases h : b < a <;> simp [h] <;> omega
theorem bin_gtr : binA P .gtr t ox oy (.int k a) (.int k b) = some (.bool (decide (b < a))) := by simp only [binA, intOp, sameKind_self, ltI_eq]
theorem bin_geq : binA P .geq t ox oy (.int k a) (.int k b) = some (.bool (decide (b ≤ a))) := by
  simp only [binA, intOp, sameKind_self, ltI_eq]; congr 2; by_cases h : a < b <;> simp [h] <;> omega
theorem bin_quo (hb : b ≠ 0) : binA P .quo t ox oy (.int k a) (.int k b) = some (.int k (k.wrap (a.tdiv b))) := by
  have : isZero b = false := by rw [isZero_eq]; simp [hb]
  simp only [binA, intOp, sameKind_self, this, wrapI_eq, divI_eq]
theorem bin_rem (hb : b ≠ 0) : binA P .rem t ox oy (.int k a) (.int k b) = some (.int k (a.tmod b)) := by
  have : isZero b = false := by rw [isZero_eq]; simp [hb]
  simp only [binA, intOp, sameKind_self, this, modI_eq]
theorem bin_quo_nn (ha : 0 ≤ a) (hb : 0 < b) : binA P .quo t ox oy (.int k a) (.int k b) = some (.int k (k.wrap (a / b))) := by
  rw [bin_quo P t ox oy k a b (by omega), Int.tdiv_eq_ediv_of_nonneg ha]
theorem bin_rem_nn (ha : 0 ≤ a) (hb : 0 < b) : binA P .rem t ox oy (.int k a) (.int k b) = some (.int k (a % b)) := by
  rw [bin_rem P t ox oy k a b (by omega), Int.tmod_eq_emod_of_nonneg ha]
theorem bin_and (h : 0 ≤ a) (h' : 0 ≤ b) : binA P .and t ox oy (.int k a) (.int k b) = some (.int k (wrapI k ((a.toNat % span k) &&& (b.toNat % span k) : Nat))) := by
  obtain ⟨m, rfl⟩ := Int.eq_ofNat_of_zero_le h
  obtain ⟨n, rfl⟩ := Int.eq_ofNat_of_zero_le h'
  simp only [binA, intOp, sameKind_self]; rfl
variable {k' : IntKind}
theorem bin_shl (hb : 0 ≤ b) : binA P .shl t ox oy (.int k a) (.int k' b) = some (.int k (k.wrap (a * 2 ^ (min b.toNat k.bits)))) := by
  have : isNeg b = false := by rw [isNeg_eq]; simp; omega
  simp only [binA, intOp, this, shlI_eq]
theorem bin_shr (hb : 0 ≤ b) : binA P .shr t ox oy (.int k a) (.int k' b) = some (.int k (a.fdiv (2 ^ (min b.toNat k.bits)))) := by
  have : isNeg b = false := by rw [isNeg_eq]; simp; omega
  simp only [binA, intOp, this, shrI_eq]
theorem bin_shr1 (ha : 0 ≤ a) : binA P .shr t ox oy (.int k a) (.int k' 1) = some (.int k (a / 2)) := by
  rw [bin_shr P t ox oy k a 1 (by omega)]
  have : min (1 : Int).toNat k.bits = 1 := by cases k <;> rfl
  rw [this, show (2 : Int) ^ 1 = 2 from rfl, Int.fdiv_eq_ediv_of_nonneg _ (by omega)]
end

theorem un_not (b : Bool) : unA .not (.bool b) = some (.bool !b) := rfl
theorem un_neg (k : IntKind) (n : Int) : unA .neg (.int k n) = some (.int k (k.wrap (0 - n))) := by simp only [unA, intOp, sameKind_self, wrapI_eq]
theorem conv_int (k k' : IntKind) (n : Int) : convA (some (some k)) (.int k' n) = some (.int k (k.wrap n)) := by simp only [convA, wrapI_eq]
theorem conv_str (s : ByteArray) : convA (some none) (.string s) = some (.string s) := rfl
theorem min_op (k : IntKind) (a b : Int) : minOp [.int k a, .int k b] = some (.int k (min a b)) := by
  simp only [minOp, minA, sameKind_self, ltI_eq]; congr 2
  by_cases h : b < a <;> simp [h] <;> omega
theorem max_op (k : IntKind) (a b : Int) : maxOp [.int k a, .int k b] = some (.int k (max a b)) := by
  simp only [maxOp, maxA, sameKind_self, ltI_eq]; congr 2
  by_cases h : a < b <;> simp [h] <;> omega

theorem wrap_i64 {n : Int} (h : -9223372036854775808 ≤ n) (h' : n ≤ 9223372036854775807) : IntKind.i64.wrap n = n := IntWalk.i64_in n ⟨h, h'⟩
theorem wrap_u64 {n : Int} (h : 0 ≤ n) (h' : n ≤ 18446744073709551615) : IntKind.u64.wrap n = n := IntWalk.u64_in n ⟨h, h'⟩
theorem wrap_u8 {n : Int} (h : 0 ≤ n) (h' : n ≤ 255) : IntKind.u8.wrap n = n := IntWalk.u8_in n ⟨h, h'⟩
theorem wrap_u32 {n : Int} (h : 0 ≤ n) (h' : n ≤ 4294967295) : IntKind.u32.wrap n = n := IntWalk.u32_in n ⟨h, h'⟩
theorem wrap_u64_mod (n : Int) : IntKind.u64.wrap n = n % 18446744073709551616 := by simp [IntKind.wrap, IntKind.bits, IntKind.signed]
theorem wrap_u8_mod (n : Int) : IntKind.u8.wrap n = n % 256 := IntKind.wrap_u8 n
theorem wrap_u32_mod (n : Int) : IntKind.u32.wrap n = n % 4294967296 := IntKind.wrap_u32 n

theorem pick_true (x y : Value) : pickA (.bool true) x y = some x := rfl
theorem pick_false (x y : Value) : pickA (.bool false) x y = some y := rfl
theorem pick_pos {p : Prop} [Decidable p] (h : p) (x y : Value) : pickA (.bool (decide p)) x y = some x := by simp [h, pickA]
theorem pick_neg {p : Prop} [Decidable p] (h : ¬p) (x y : Value) : pickA (.bool (decide p)) x y = some y := by simp [h, pickA]

/-! ## nil -/

section
variable (P : Program) {t : TypeId} (ox oy : Operand)
theorem ptr_eq_nil (h : descKind P t = 6) (b : Option Addr) : binA P .eql t ox oy (.pointer b) (.pointer none) = some (.bool b.isNone) := by
  cases b <;> simp [binA, nilBin, nilEq, h]
theorem ptr_ne_nil (h : descKind P t = 6) (b : Option Addr) : binA P .neq t ox oy (.pointer b) (.pointer none) = some (.bool b.isSome) := by
  cases b <;> simp [binA, nilBin, nilEq, h]
theorem iface_eq_nil (h : descKind P t = 7) (u : TypeId) (v : Value) : binA P .eql t ox oy (.iface u v) .nilIface = some (.bool false) := by simp [binA, nilBin, nilEq, h]
theorem iface_ne_nil (h : descKind P t = 7) (u : TypeId) (v : Value) : binA P .neq t ox oy (.iface u v) .nilIface = some (.bool true) := by simp [binA, nilBin, nilEq, h]
theorem nil_eq_nil (h : descKind P t = 7) (v : Value) : binA P .eql t ox (.const v) .nilIface .nilIface = some (.bool true) := by simp [binA, nilBin, nilEq, h, isConstA]
theorem nil_ne_nil (h : descKind P t = 7) (v : Value) : binA P .neq t ox (.const v) .nilIface .nilIface = some (.bool false) := by simp [binA, nilBin, nilEq, h, isConstA]
theorem bool_eql (h : descKind P t = 5) (a b : Bool) : binA P .eql t ox oy (.bool a) (.bool b) = some (.bool (a == b)) := by simp [binA, boolEq, h]
theorem bool_neq (h : descKind P t = 5) (a b : Bool) : binA P .neq t ox oy (.bool a) (.bool b) = some (.bool (!(a == b))) := by simp [binA, boolEq, h]
theorem str_eql (a b : ByteArray) : binA P .eql t ox oy (.string a) (.string b) = some (.bool (a.data.toList == b.data.toList)) := rfl
theorem str_neq (a b : ByteArray) : binA P .neq t ox oy (.string a) (.string b) = some (.bool (!(a.data.toList == b.data.toList))) := rfl
end
theorem nil_check (a : Addr) : nilA (.pointer (some a)) = some (.pointer (some a)) := rfl
theorem nil_check_f (f : FuncId) (a b : Array Value) : nilA (.func (.func f) a b) = some (.func (.func f) a b) := rfl

/-! ## The heap -/

theorem get_push_ne {H : AHeap} {B : Blk} {b : Nat} (h : b < H.next) : (H.push B).get b = H.get b := by rw [AHeap.get_push, if_neg (by omega)]
theorem get_push_eq (H : AHeap) (B : Blk) : (H.push B).get H.next = some B := by rw [AHeap.get_push, if_pos rfl]
theorem get_set_ne {H : AHeap} {B : Option Blk} {b c : Nat} (h : b ≠ c) : (H.set c B).get b = H.get b := by rw [AHeap.get_set, if_neg h]
theorem get_set_eq (H : AHeap) (B : Option Blk) (b : Nat) : (H.set b B).get b = B := by rw [AHeap.get_set, if_pos rfl]

/-- A block stands there. -/
def Has (H : AHeap) (b : Nat) (B : Blk) : Prop := b < H.next ∧ H.get b = some B
/-- A row that may be read stands there. -/
def Row (H : AHeap) (b : Nat) (l : List Value) : Prop := b < H.next ∧ rowOf (H.get b) = some l

theorem Has.row {H : AHeap} {b : Nat} {l : List Value} (h : Has H b (.cells l)) : Row H b l := ⟨h.1, by rw [h.2]; rfl⟩
theorem Has.ro {H : AHeap} {b : Nat} {l : List Value} (h : Has H b (.ro l)) : Row H b l := ⟨h.1, by rw [h.2]; rfl⟩
theorem Has.push {H : AHeap} {b : Nat} {B : Blk} (h : Has H b B) (B' : Blk) : Has (H.push B') b B := ⟨by rw [AHeap.next_push]; have := h.1; omega, by rw [get_push_ne h.1, h.2]⟩
theorem Has.new (H : AHeap) (B : Blk) : Has (H.push B) H.next B := ⟨by rw [AHeap.next_push]; omega, get_push_eq H B⟩
theorem Has.setNe {H : AHeap} {b c : Nat} {B : Blk} (h : Has H b B) (hn : b ≠ c) (X : Option Blk) : Has (H.set c X) b B := ⟨h.1, by rw [get_set_ne hn, h.2]⟩
theorem Has.setEq {H : AHeap} {b : Nat} {B : Blk} (h : Has H b B) (B' : Blk) : Has (H.set b (some B')) b B' := ⟨h.1, get_set_eq _ _ _⟩
theorem Row.push {H : AHeap} {b : Nat} {l : List Value} (h : Row H b l) (B' : Blk) : Row (H.push B') b l := ⟨by rw [AHeap.next_push]; have := h.1; omega, by rw [get_push_ne h.1, h.2]⟩
theorem Row.setNe {H : AHeap} {b c : Nat} {l : List Value} (h : Row H b l) (hn : b ≠ c) (X : Option Blk) : Row (H.set c X) b l := ⟨h.1, by rw [get_set_ne hn, h.2]⟩

/-- All blocks but some stand as they stood. -/
def Mod (F : Nat → Prop) (H H' : AHeap) : Prop := H.next ≤ H'.next ∧ ∀ b, b < H.next → ¬F b → H'.get b = H.get b
/-- All blocks stand as they stood. -/
abbrev Ext (H H' : AHeap) : Prop := Mod (fun _ => False) H H'

theorem Mod.refl {F : Nat → Prop} {H : AHeap} : Mod F H H := ⟨Nat.le_refl _, fun _ _ _ => rfl⟩
theorem Mod.trans {F : Nat → Prop} {H H' H'' : AHeap} (h : Mod F H H') (h' : Mod F H' H'') : Mod F H H'' :=
  ⟨Nat.le_trans h.1 h'.1, fun b hb hF => by rw [h'.2 b (Nat.lt_of_lt_of_le hb h.1) hF, h.2 b hb hF]⟩
theorem Mod.mono {F G : Nat → Prop} {H H' : AHeap} (h : Mod F H H') (hs : ∀ b, b < H.next → F b → G b) : Mod G H H' := ⟨h.1, fun b hb hG => h.2 b hb fun hF => hG (hs b hb hF)⟩
theorem Mod.then {F F' : Nat → Prop} {H H' H'' : AHeap} (h : Mod F H H') (h' : Mod F' H' H'') (hs : ∀ b, b < H.next → F' b → F b) : Mod F H H'' :=
  ⟨Nat.le_trans h.1 h'.1, fun b hb hF => by rw [h'.2 b (Nat.lt_of_lt_of_le hb h.1) (fun h => hF (hs b hb h)), h.2 b hb hF]⟩
theorem Mod.push (F : Nat → Prop) (H : AHeap) (B : Blk) : Mod F H (H.push B) := ⟨by rw [AHeap.next_push]; omega, fun b hb _ => get_push_ne hb⟩
theorem Mod.pushed {F : Nat → Prop} {H H' : AHeap} (h : Mod F H H') (B : Blk) : Mod F H (H'.push B) := h.trans (Mod.push F H' B)
theorem Mod.set {F : Nat → Prop} {H : AHeap} {c : Nat} (hc : F c) (X : Option Blk) : Mod F H (H.set c X) := ⟨Nat.le_refl _, fun b _ hF => get_set_ne fun e => hF (e ▸ hc)⟩
theorem Mod.setNew {F : Nat → Prop} {H H' : AHeap} (h : Mod F H H') {c : Nat} (hc : H.next ≤ c) (X : Option Blk) : Mod F H (H'.set c X) :=
  ⟨h.1, fun b hb hF => by rw [get_set_ne (by omega)]; exact h.2 b hb hF⟩
theorem Ext.mod {F : Nat → Prop} {H H' : AHeap} (h : Ext H H') : Mod F H H' := h.mono fun _ _ h => h.elim
theorem Has.mod {F : Nat → Prop} {H H' : AHeap} {b : Nat} {B : Blk} (h : Has H b B) (hm : Mod F H H') (hF : ¬F b) : Has H' b B := ⟨Nat.lt_of_lt_of_le h.1 hm.1, by rw [hm.2 b h.1 hF, h.2]⟩
theorem Row.mod {F : Nat → Prop} {H H' : AHeap} {b : Nat} {l : List Value} (h : Row H b l) (hm : Mod F H H') (hF : ¬F b) : Row H' b l := ⟨Nat.lt_of_lt_of_le h.1 hm.1, by rw [hm.2 b h.1 hF, h.2]⟩
theorem Has.ext {H H' : AHeap} {b : Nat} {B : Blk} (h : Has H b B) (hm : Ext H H') : Has H' b B := h.mod hm fun h => h
theorem Row.ext {H H' : AHeap} {b : Nat} {l : List Value} (h : Row H b l) (hm : Ext H H') : Row H' b l := h.mod hm fun h => h

/-! ## Reads and writes -/

theorem load_one (a : Addr) (H : AHeap) : loadA (some none) (.pointer (some a)) H = H.cell a := rfl
theorem load_agg (n : Nat) (a : Addr) (H : AHeap) : loadA (some (some n)) (.pointer (some a)) H = aggOf (H.cells a n) := rfl
theorem agg_some (l : List Value) : aggOf (some l) = some (.agg l.toArray) := rfl
theorem cell_at {H : AHeap} {b : Nat} {l : List Value} (h : Row H b l) (o : Nat) : H.cell ⟨b, o, none⟩ = l[o]? := by
  simp only [AHeap.cell, h.2, nth_eq]
theorem cells_at {H : AHeap} {b : Nat} {l : List Value} (h : Row H b l) {o n : Nat} (hl : o + n ≤ l.length) : H.cells ⟨b, o, none⟩ n = some ((l.drop o).take n) := by
  simp only [AHeap.cells, h.2, Nat_ble_eq, len_eq, hl, decide_true, sub_eq]
theorem store_at {H : AHeap} {b : Nat} {l vs : List Value} (h : Has H b (.cells l)) {o : Nat} (hl : o + vs.length ≤ l.length) (ha : vs.all oneCell = true) :
    H.store ⟨b, o, none⟩ vs = some (H.set b (some (.cells (splice l o vs)))) := by
  simp only [AHeap.store, h.2, Nat_ble_eq, len_eq, hl, decide_true, allL_eq, ha]
theorem store_one {H : AHeap} {b : Nat} {l : List Value} (h : Has H b (.cells l)) {o : Nat} (hl : o < l.length) {v : Value} (hv : cellsOf v = [v]) (ha : oneCell v = true) :
    storeA (some 1) (.pointer (some ⟨b, o, none⟩)) v H = some (undef, H.set b (some (.cells (l.set o v)))) := by
  simp only [storeA, hv, len_eq, List.length_cons, List.length_nil, Nat_beq_eq', decide_true]
  rw [store_at h (by simp only [List.length_cons, List.length_nil]; omega) (by simp [ha]), splice_one _ _ _ hl]
theorem store_aggs {H : AHeap} {b : Nat} {l vs : List Value} (h : Has H b (.cells l)) {o n : Nat} (hn : vs.length = n) (hl : o + vs.length ≤ l.length) (ha : vs.all oneCell = true) :
    storeA (some n) (.pointer (some ⟨b, o, none⟩)) (.agg vs.toArray) H = some (undef, H.set b (some (.cells (splice l o vs)))) := by
  simp only [storeA, cellsOf, len_eq, hn, Nat_beq_eq', decide_true]
  rw [store_at h hl ha]

theorem part_one (cs : Array Value) (off : Nat) : partA (some none) cs off = cs.toList[off]? := by simp only [partA, nth_eq]
theorem part_agg {cs : Array Value} {n off : Nat} (h : off + n ≤ cs.size) : partA (some (some n)) cs off = some (.agg ((cs.toList.drop off).take n).toArray) := by
  simp only [partA, Nat_ble_eq, h, decide_true, sub_eq]
theorem field_one {P : Program} {off n : Nat} {t : TypeId} (h : loadT P t = some none) (cs : Array Value) : fieldA P (some (off, n, t)) (.agg cs) = cs.toList[off]? := by
  simp only [fieldA, h, part_one]
theorem field_ptr (off m : Nat) (t : TypeId) (b o : Nat) : fieldPtr (some (off, m + 1, t)) (.pointer (some ⟨b, o, none⟩)) = some (.pointer (some ⟨b, o + off, none⟩)) := rfl
theorem index_slice {i : Int} {n len b o w : Nat} {k : IntKind} (h0 : 0 ≤ i) (h1 : i < len) : indexPtr (some (none, n)) (.slice (some ⟨b, o, none⟩) len w) (.int k i) = some (.pointer (some ⟨b, o + i.toNat * n, none⟩)) := by
  obtain ⟨j, rfl⟩ := Int.eq_ofNat_of_zero_le h0
  have : Nat.blt j len = true := by rw [Nat_blt_eq]; simp; omega
  show (match Nat.blt j len with | true => some (Value.pointer (some ⟨b, o + j * n, none⟩)) | false => none) = _
  rw [this]; rfl
theorem index_array {i : Int} {n len b o : Nat} {k : IntKind} (h0 : 0 ≤ i) (h1 : i < len) : indexPtr (some (some len, n)) (.pointer (some ⟨b, o, none⟩)) (.int k i) = some (.pointer (some ⟨b, o + i.toNat * n, none⟩)) := by
  obtain ⟨j, rfl⟩ := Int.eq_ofNat_of_zero_le h0
  have : Nat.blt j len = true := by rw [Nat_blt_eq]; simp; omega
  show (match Nat.blt j len with | true => some (Value.pointer (some ⟨b, o + j * n, none⟩)) | false => none) = _
  rw [this]; rfl
theorem extract_nth (vs : Array Value) (i : Nat) : extractA (.tuple vs) i = vs.toList[i]? := by simp only [extractA, nth_eq]
theorem len_slice (a : Option Addr) (n w : Nat) : lenA 2 none (.slice a n w) = some (.int .i64 n) := rfl
theorem len_str (s : ByteArray) : lenA 1 none (.string s) = some (.int .i64 s.size) := rfl
theorem len_arr (k n : Nat) (v : Value) : lenA k (some n) v = some (.int .i64 n) := rfl
theorem new_ptr {v : Value} (h : (cellsOf v).all oneCell = true) : newPtr (cellsOf v) = some (.cells (cellsOf v), fun i => .pointer (some ⟨i, 0, none⟩)) := by
  simp only [newPtr, allL_eq, h]

/-! ## Loops -/

abbrev Round := List Value → AHeap → Option (Nat × List Value × AHeap)

theorem iter_next {b : Round} {m : Nat} {vs vs' : List Value} {H H' : AHeap} (h : b vs H = some (0, vs', H')) : iterL b (m + 1) vs H = iterL b m vs' H' := by
  rw [iterL_succ, h]; rfl
theorem iter_exit {b : Round} {m : Nat} {vs vs' : List Value} {H H' : AHeap} {j : Nat} (h : b vs H = some (j + 1, vs', H')) : iterL b (m + 1) vs H = some (j, vs', H') := by
  rw [iterL_succ, h]; rfl

/-- A loop whose states are known. -/
theorem iter_for {b : Round} (n : Nat) (vs : Nat → List Value) (H : Nat → AHeap) {j : Nat} {vs' : List Value} {H' : AHeap}
    (hs : ∀ i, i < n → b (vs i) (H i) = some (0, vs (i + 1), H (i + 1))) (he : b (vs n) (H n) = some (j + 1, vs', H')) : ∀ m, n < m → iterL b m (vs 0) (H 0) = some (j, vs', H') := by
  have key : ∀ d i m, i + d = n → d < m → iterL b m (vs i) (H i) = some (j, vs', H') := by
    intro d
    induction d with
    | zero =>
      intro i m hi hm
      obtain rfl : i = n := by omega
      obtain ⟨m, rfl⟩ : ∃ k, m = k + 1 := ⟨m - 1, by omega⟩
      exact iter_exit he
    | succ d ih =>
      intro i m hi hm
      obtain ⟨m, rfl⟩ : ∃ k, m = k + 1 := ⟨m - 1, by omega⟩
      rw [iter_next (hs i (by omega))]
      exact ih (i + 1) m (by omega) (by omega)
  exact fun m hm => key n 0 m (by omega) hm

/-- A loop with an invariant and a measure. -/
theorem iter_inv {b : Round} (I : Nat → List Value → AHeap → Prop) (Q : Nat → List Value → AHeap → Prop)
    (hs : ∀ d vs H, I d vs H → (∃ d' vs' H', b vs H = some (0, vs', H') ∧ d' < d ∧ I d' vs' H') ∨ ∃ j vs' H', b vs H = some (j + 1, vs', H') ∧ Q j vs' H') :
    ∀ d m vs H, I d vs H → d < m → ∃ j vs' H', iterL b m vs H = some (j, vs', H') ∧ Q j vs' H' := by
  intro d
  induction d using Nat.strongRecOn with
  | ind d ih =>
    intro m vs H hI hm
    obtain ⟨m, rfl⟩ : ∃ k, m = k + 1 := ⟨m - 1, by omega⟩
    rcases hs d vs H hI with ⟨d', vs', H', h1, h2, h3⟩ | ⟨j, vs', H', h1, h2⟩
    · rw [iter_next h1]; exact ih d' h2 m vs' H' h3 (by omega)
    · exact ⟨j, vs', H', iter_exit h1, h2⟩

theorem getT_cons0 (x : Value) (l : List Value) : getT (x :: l) 0 = x := rfl
end Go.Abs

namespace Go.Abs

/-! ## Rows of structs -/

theorem flat_len {α : Type} {f : α → List Value} {n : Nat} (hf : ∀ x, (f x).length = n) : ∀ l : List α, (l.flatMap f).length = l.length * n
  | [] => by simp
  | x :: l => by simp [List.flatMap_cons, hf x, flat_len hf l, Nat.add_mul]; omega
theorem flat_drop {α : Type} {f : α → List Value} {n : Nat} (hf : ∀ x, (f x).length = n) : ∀ (l : List α) (i : Nat), (l.flatMap f).drop (i * n) = (l.drop i).flatMap f
  | [], i => by simp
  | x :: l, 0 => by simp
  | x :: l, i + 1 => by
    rw [List.flatMap_cons, List.drop_succ_cons, ← flat_drop hf l i, show (i + 1) * n = (f x).length + i * n by rw [hf x, Nat.add_mul]; omega, List.drop_append]
    simp
theorem flat_take {α : Type} {f : α → List Value} {n : Nat} (hf : ∀ x, (f x).length = n) : ∀ (l : List α) (i : Nat), (l.flatMap f).take (i * n) = (l.take i).flatMap f
  | [], i => by simp
  | x :: l, 0 => by simp
  | x :: l, i + 1 => by
    rw [List.flatMap_cons, List.take_succ_cons, List.flatMap_cons, ← flat_take hf l i, show (i + 1) * n = (f x).length + i * n by rw [hf x, Nat.add_mul]; omega, List.take_append, List.take_of_length_le (by omega)]
    simp
theorem flat_at {α : Type} {f : α → List Value} {n : Nat} (hf : ∀ x, (f x).length = n) {l : List α} {i : Nat} {x : α} (h : l[i]? = some x) : ((l.flatMap f).drop (i * n)).take n = f x := by
  obtain ⟨hi, rfl⟩ := List.getElem?_eq_some_iff.1 h
  rw [flat_drop hf, List.drop_eq_getElem_cons hi, List.flatMap_cons, List.take_append, List.take_of_length_le (by rw [hf]; exact Nat.le_refl _)]
  simp [hf]
theorem flat_cell {α : Type} {f : α → List Value} {n : Nat} (hf : ∀ x, (f x).length = n) {l : List α} {i : Nat} {x : α} (h : l[i]? = some x) {j : Nat} (hj : j < n) : (l.flatMap f)[i * n + j]? = (f x)[j]? := by
  rw [← flat_at hf h, List.getElem?_take, if_pos hj, List.getElem?_drop]

/-- The struct at a place of a row. -/
theorem cells_row {H : AHeap} {b : Nat} {α : Type} {f : α → List Value} {n : Nat} (hf : ∀ x, (f x).length = n) {l : List α} (h : Row H b (l.flatMap f)) {i : Nat} {x : α} (hx : l[i]? = some x) : H.cells ⟨b, i * n, none⟩ n = some (f x) := by
  have hi := (List.getElem?_eq_some_iff.1 hx).1
  have : i * n + n ≤ l.length * n := by have := Nat.mul_le_mul_right n (show i + 1 ≤ l.length from hi); rw [Nat.add_mul] at this; omega
  rw [cells_at h (by rw [flat_len hf]; exact this), flat_at hf hx]
theorem cell_row {H : AHeap} {b : Nat} {α : Type} {f : α → List Value} {n : Nat} (hf : ∀ x, (f x).length = n) {l : List α} (h : Row H b (l.flatMap f)) {i : Nat} {x : α} (hx : l[i]? = some x) {j : Nat} (hj : j < n) : H.cell ⟨b, i * n + j, none⟩ = (f x)[j]? := by
  rw [cell_at h, flat_cell hf hx hj]

/-! ## Boxes -/

noncomputable def box (H : AHeap) (l : List Value) : AHeap := H.push (.cells l)
noncomputable def boxed (H : AHeap) (zs vs : List Value) : AHeap := (H.push (.cells zs)).set H.next (some (.cells vs))

theorem next_box (H : AHeap) (l : List Value) : (box H l).next = H.next + 1 := rfl
theorem next_boxed (H : AHeap) (zs vs : List Value) : (boxed H zs vs).next = H.next + 1 := rfl
theorem has_box (H : AHeap) (l : List Value) : Has (box H l) H.next (.cells l) := Has.new _ _
theorem has_boxed (H : AHeap) (zs vs : List Value) : Has (boxed H zs vs) H.next (.cells vs) := (Has.new H _).setEq _
theorem ext_box (H : AHeap) (l : List Value) : Ext H (box H l) := Mod.push _ _ _
theorem ext_boxed (H : AHeap) (zs vs : List Value) : Ext H (boxed H zs vs) := (ext_box H zs).setNew (Nat.le_refl _) _

theorem store_boxed {H : AHeap} {zs vs : List Value} {n : Nat} (hn : vs.length = n) (hz : zs.length = n) (ha : vs.all oneCell = true) :
    storeA (some n) (.pointer (some ⟨H.next, 0, none⟩)) (.agg vs.toArray) (H.push (.cells zs)) = some (undef, boxed H zs vs) := by
  rw [store_aggs (Has.new H _) hn (by omega) ha, splice_eq _ _ _ (by omega)]
  simp only [boxed, List.take_zero, List.nil_append, Nat.zero_add]
  rw [List.drop_of_length_le (by omega), List.append_nil]
theorem store_boxed1 {H : AHeap} {z v : Value} (hv : cellsOf v = [v]) (ha : oneCell v = true) :
    storeA (some 1) (.pointer (some ⟨H.next, 0, none⟩)) v (H.push (.cells [z])) = some (undef, boxed H [z] [v]) := by
  rw [store_one (Has.new H _) (by simp) hv ha]; rfl
theorem new_box (l : List Value) : newPtr l = if l.all oneCell = true then some (.cells l, fun i => .pointer (some ⟨i, 0, none⟩)) else none := by
  by_cases h : l.all oneCell = true
  · simp only [newPtr, allL_eq, h, if_true]
  · simp only [newPtr, allL_eq, h, Bool.false_eq_true, if_false]
/-- A new box is filled. -/
theorem fill_box (H : AHeap) (zs vs : List Value) (n : Nat) (h : (decide (vs.length = n) && decide (zs.length = n) && vs.all oneCell) = true) :
    storeA (some n) (.pointer (some ⟨H.next, 0, none⟩)) (.agg vs.toArray) (box H zs) = some (undef, boxed H zs vs) := by
  simp only [Bool.and_eq_true, decide_eq_true_eq] at h
  exact store_boxed h.1.1 h.1.2 h.2
theorem fill_box1 (H : AHeap) (z : Value) (k : IntKind) (n : Int) : storeA (some 1) (.pointer (some ⟨H.next, 0, none⟩)) (.int k n) (box H [z]) = some (undef, boxed H [z] [.int k n]) := store_boxed1 rfl rfl
theorem fill_box1s (H : AHeap) (z : Value) (a : Option Addr) (n w : Nat) : storeA (some 1) (.pointer (some ⟨H.next, 0, none⟩)) (.slice a n w) (box H [z]) = some (undef, boxed H [z] [.slice a n w]) := store_boxed1 rfl rfl
theorem fill_box1p (H : AHeap) (z : Value) (a : Option Addr) : storeA (some 1) (.pointer (some ⟨H.next, 0, none⟩)) (.pointer a) (box H [z]) = some (undef, boxed H [z] [.pointer a]) := store_boxed1 rfl rfl
theorem fill_box1b (H : AHeap) (z : Value) (b : Bool) : storeA (some 1) (.pointer (some ⟨H.next, 0, none⟩)) (.bool b) (box H [z]) = some (undef, boxed H [z] [.bool b]) := store_boxed1 rfl rfl
theorem cells_agg (l : List Value) : cellsOf (.agg l.toArray) = l := rfl
theorem cells_int (k : IntKind) (n : Int) : cellsOf (.int k n) = [.int k n] := rfl
theorem cells_ptr (a : Option Addr) : cellsOf (.pointer a) = [.pointer a] := rfl
theorem cells_slice (a : Option Addr) (n w : Nat) : cellsOf (.slice a n w) = [.slice a n w] := rfl
theorem cells_bool (b : Bool) : cellsOf (.bool b) = [.bool b] := rfl
theorem cells_str (s : ByteArray) : cellsOf (.string s) = [.string s] := rfl
theorem push_box (H : AHeap) (l : List Value) : H.push (.cells l) = box H l := rfl
theorem one_int (k : IntKind) (n : Int) : oneCell (.int k n) = true := rfl
theorem one_ptr (a : Option Addr) : oneCell (.pointer a) = true := rfl
theorem one_slice (a : Option Addr) (n w : Nat) : oneCell (.slice a n w) = true := rfl
theorem one_bool (b : Bool) : oneCell (.bool b) = true := rfl
theorem one_str (s : ByteArray) : oneCell (.string s) = true := rfl
theorem one_nil : oneCell .nilIface = true := rfl
theorem one_iface (t : TypeId) (v : Value) : oneCell (.iface t v) = true := rfl

theorem Row.box {H : AHeap} {b : Nat} {l : List Value} (h : Row H b l) (m : List Value) : Row (box H m) b l := h.push _
theorem Row.boxed {H : AHeap} {b : Nat} {l : List Value} (h : Row H b l) (z m : List Value) : Row (boxed H z m) b l := h.ext (ext_boxed _ _ _)

theorem callTo_func (C : CallF) (H : AHeap) (g : FuncId) (first cap : List Value) (args : List Value) : callTo C H (calleeA (.func (.func g) first.toArray cap.toArray) args) = C g (first ++ (args ++ cap)) H := rfl

theorem lt_rounds {n : Nat} (h : n ≤ 9999999) : n < rounds := by unfold rounds; omega

/-! ## Slices that hold lists -/

/-- A slice that holds a list: each element in so many cells. -/
def Sl {α : Type} (H : AHeap) (v : Value) (n : Nat) (f : α → List Value) (l : List α) : Prop :=
  (l = [] ∧ v = .slice none 0 0) ∨ ∃ b o c, v = .slice (some ⟨b, o, none⟩) l.length n ∧ Row H b c ∧ o + l.length * n ≤ c.length ∧ (c.drop o).take (l.length * n) = l.flatMap f

/-- The block of a slice or pointer. -/
def vblk : Value → Option Nat
  | .slice (some a) _ _ => some a.block
  | .pointer (some a) => some a.block
  | _ => none

section
variable {α : Type} {H : AHeap} {v : Value} {n : Nat} {f : α → List Value} {l : List α}
theorem Sl.nil (H : AHeap) (n : Nat) (f : α → List Value) : Sl H (.slice none 0 0) n f [] := .inl ⟨rfl, rfl⟩
theorem Sl.mk (hf : ∀ x, (f x).length = n) {b : Nat} (h : Row H b (l.flatMap f)) : Sl H (.slice (some ⟨b, 0, none⟩) l.length n) n f l :=
  .inr ⟨b, 0, _, rfl, h, by rw [flat_len hf]; omega, by rw [List.drop_zero, List.take_of_length_le (by rw [flat_len hf]; exact Nat.le_refl _)]⟩
theorem Sl.mod {F : Nat → Prop} {H' : AHeap} (h : Sl H v n f l) (hm : Mod F H H') (hF : ∀ b, vblk v = some b → ¬F b) : Sl H' v n f l := by
  rcases h with h | ⟨b, o, c, h1, h2, h3⟩
  · exact .inl h
  · exact .inr ⟨b, o, c, h1, h2.mod hm (hF b (by rw [h1]; rfl)), h3⟩
theorem Sl.ext {H' : AHeap} (h : Sl H v n f l) (hm : Ext H H') : Sl H' v n f l := h.mod hm fun _ _ h => h
theorem Sl.len (h : Sl H v n f l) : lenA 2 none v = some (.int .i64 l.length) := by
  rcases h with ⟨h1, h2⟩ | ⟨b, o, c, h1, h2, h3⟩
  · subst h1; subst h2; rfl
  · subst h1; rfl
theorem Sl.lt (h : Sl H v n f l) : ∀ b, vblk v = some b → b < H.next := by
  intro b hb
  rcases h with ⟨h1, h2⟩ | ⟨b', o, c, h1, h2, h3⟩
  · subst h2; simp [vblk] at hb
  · subst h1; simp [vblk] at hb; subst hb; exact h2.1
/-- An element. -/
theorem Sl.at (hf : ∀ x, (f x).length = n) (h : Sl H v n f l) {i : Int} {x : α} (h0 : 0 ≤ i) (hx : l[i.toNat]? = some x) (k : IntKind) :
    ∃ b o c, indexPtr (some (none, n)) v (.int k i) = some (.pointer (some ⟨b, o, none⟩)) ∧ vblk v = some b ∧ Row H b c ∧ o + n ≤ c.length ∧ H.cells ⟨b, o, none⟩ n = some (f x) ∧ ∀ j, j < n → H.cell ⟨b, o + j, none⟩ = (f x)[j]? := by
  have hi := (List.getElem?_eq_some_iff.1 hx).1
  rcases h with ⟨h1, h2⟩ | ⟨b, o, c, h1, h2, h3, h4⟩
  · subst h1; simp at hx
  · subst h1
    have hle : i.toNat * n + n ≤ l.length * n := by have := Nat.mul_le_mul_right n (show i.toNat + 1 ≤ l.length from hi); rw [Nat.add_mul] at this; omega
    have hc : H.cells ⟨b, o + i.toNat * n, none⟩ n = some (f x) := by
      rw [cells_at h2 (by omega)]
      congr 1
      rw [← flat_at hf hx, ← h4, List.drop_take, List.take_take, List.drop_drop, Nat.min_eq_left (by omega)]
    refine ⟨b, o + i.toNat * n, c, index_slice h0 (by omega), rfl, h2, by omega, hc, fun j hj => ?_⟩
    rw [cells_at h2 (by omega)] at hc
    have e := Option.some.inj hc
    rw [cell_at h2, ← e, List.getElem?_take, if_pos hj, List.getElem?_drop]
end

end Go.Abs

namespace Go.Abs

/-- A slice that holds a list, in a block that may be written. -/
def Own {α : Type} (H : AHeap) (v : Value) (n : Nat) (f : α → List Value) (l : List α) : Prop :=
  (l = [] ∧ v = .slice none 0 0) ∨ ∃ b o c, v = .slice (some ⟨b, o, none⟩) l.length n ∧ Has H b (.cells c) ∧ o + l.length * n ≤ c.length ∧ (c.drop o).take (l.length * n) = l.flatMap f

section
variable {α : Type} {H : AHeap} {v : Value} {n : Nat} {f : α → List Value} {l : List α}
theorem Own.sl (h : Own H v n f l) : Sl H v n f l := by
  rcases h with h | ⟨b, o, c, h1, h2, h3⟩
  · exact .inl h
  · exact .inr ⟨b, o, c, h1, h2.row, h3⟩
theorem Own.nil (H : AHeap) (n : Nat) (f : α → List Value) : Own H (.slice none 0 0) n f [] := .inl ⟨rfl, rfl⟩
theorem Own.mk (hf : ∀ x, (f x).length = n) {b : Nat} (h : Has H b (.cells (l.flatMap f))) : Own H (.slice (some ⟨b, 0, none⟩) l.length n) n f l :=
  .inr ⟨b, 0, _, rfl, h, by rw [flat_len hf]; omega, by rw [List.drop_zero, List.take_of_length_le (by rw [flat_len hf]; exact Nat.le_refl _)]⟩
theorem Own.mod {F : Nat → Prop} {H' : AHeap} (h : Own H v n f l) (hm : Mod F H H') (hF : ∀ b, vblk v = some b → ¬F b) : Own H' v n f l := by
  rcases h with h | ⟨b, o, c, h1, h2, h3⟩
  · exact .inl h
  · exact .inr ⟨b, o, c, h1, h2.mod hm (hF b (by rw [h1]; rfl)), h3⟩
theorem Own.ext {H' : AHeap} (h : Own H v n f l) (hm : Ext H H') : Own H' v n f l := h.mod hm fun _ _ h => h
theorem Own.lt (h : Own H v n f l) : ∀ b, vblk v = some b → b < H.next := h.sl.lt

theorem Own.one (h : Own H v n f l) : oneCell v = true := by
  rcases h with ⟨_, h⟩ | ⟨b, o, c, h, _⟩ <;> subst h <;> rfl
theorem Sl.one (h : Sl H v n f l) : oneCell v = true := by
  rcases h with ⟨_, h⟩ | ⟨b, o, c, h, _⟩ <;> subst h <;> rfl
theorem Sl.cellsOf (h : Sl H v n f l) : cellsOf v = [v] := by
  rcases h with ⟨_, h⟩ | ⟨b, o, c, h, _⟩ <;> subst h <;> rfl

/-- The first is left out. -/
theorem Own.tail {x : α} (hf : ∀ x, (f x).length = n) (h : Own H v n f (x :: l)) : ∃ v', sliceA 2 (some (none, n)) v (some (.int .i64 1)) none none = some v' ∧ Own H v' n f l ∧ vblk v' = vblk v := by
  rcases h with ⟨h, _⟩ | ⟨b, o, c, rfl, h2, h3, h4⟩
  · simp at h
  · refine ⟨.slice (some ⟨b, o + 1 * n, none⟩) l.length n, ?_, .inr ⟨b, o + 1 * n, c, rfl, h2, ?_, ?_⟩, rfl⟩
    · simp only [sliceA, Nat_beq_eq', decide_true, show boundA (some (.int .i64 1)) 0 = some 1 from rfl, show ∀ k, boundA none k = some k from fun _ => rfl, cutRow, Nat_ble_eq, List.length_cons, show 1 ≤ l.length + 1 by omega, Nat.le_refl, Nat.add_sub_cancel]
    · simp only [List.length_cons, Nat.add_mul] at h3; omega
    · simp only [List.length_cons, Nat.add_mul, Nat.one_mul, List.flatMap_cons] at h4 ⊢
      have := congrArg (List.drop n) h4
      rw [List.drop_take, List.drop_drop, List.drop_left' (hf x), Nat.add_sub_cancel] at this
      exact this
end

theorem build_one (n w : Nat) (z : List Value) (x : Value) (hn : 0 < n) (hn' : n ≤ 16777216) (hz : z.length = n) (hx : (cellsOf x).length = n) (ho : (cellsOf x).all oneCell = true) :
    buildSliceA (some (n, w, z)) 1 [(0, x)] = some (.cells (cellsOf x), fun i => .slice (some ⟨i, 0, none⟩) 1 n) := by
  have hzz : zerosA z 1 = z := by show app z [] = z; rw [app_eq, List.append_nil]
  simp only [buildSliceA, Nat_ble_eq, Nat.one_mul, hn', decide_true, hzz, fillA, len_eq, hx, Nat_beq_eq', Nat.zero_mul, Nat.zero_add, hz, Nat.le_refl, allL_eq, ho, newRowA]
  rw [splice_eq _ _ _ (by omega)]
  simp only [List.take_zero, List.nil_append, Nat.zero_add]
  rw [List.drop_of_length_le (by omega), List.append_nil]
theorem build_none (n w : Nat) (z : List Value) : buildSliceA (some (n, w, z)) 0 [] = some (.cells [], fun i => .slice (some ⟨i, 0, none⟩) 0 n) := by
  simp only [buildSliceA, Nat.zero_mul, Nat_ble_eq, Nat.zero_le, decide_true, fillA, newRowA]; rfl

section
variable {α : Type} {H : AHeap} {v u : Value} {n w : Nat} {f : α → List Value} {l m : List α}

theorem src_cells (hn : 0 < n) (hu : Sl H u n f m) : srcCells H n u = some (m.length, m.flatMap f) := by
  rcases hu with ⟨rfl, rfl⟩ | ⟨b, o, c, rfl, h2, h3, h4⟩
  · rfl
  · simp only [srcCells, Nat_beq_eq', decide_true]
    rw [cells_at h2 h3, h4]

/-- An append. -/
theorem append_own (hn : 0 < n) (hf : ∀ x, (f x).length = n) (hone : ∀ x, (f x).all oneCell = true) (hv : Own H v n f l) (hu : Sl H u n f m) (hb : (l.length + m.length) * w ≤ 1099511627776) (hb' : l.length + m.length ≤ 1099511627776) :
    ∃ v' H', appendA (some (n, w)) v u H = some (v', H') ∧ Own H' v' n f (l ++ m) ∧ Mod (fun b => vblk v = some b) H H' ∧ (∀ b, vblk v' = some b → H.next ≤ b ∨ vblk v = some b) ∧ (m ≠ [] → ∃ v0, v' = .slice (some ⟨v0, 0, none⟩) (l.length + m.length) n ∧ H.next ≤ v0) := by
  have hall : (m.flatMap f).all oneCell = true := by rw [List.all_flatMap]; exact List.all_eq_true.2 fun x _ => hone x
  have hlen : lenOfSlice v = l.length := by
    rcases hv with ⟨rfl, rfl⟩ | ⟨b, o, c, rfl, _⟩ <;> rfl
  simp only [appendA, src_cells hn hu, hlen, Nat_ble_eq, hb, hb', decide_true, allL_eq, hall]
  cases m with
  | nil =>
    refine ⟨v, H, ?_, by simpa using hv, Mod.refl, fun b hb => .inr hb, fun h => absurd rfl h⟩
    rcases hv with ⟨rfl, rfl⟩ | ⟨b, o, c, rfl, _⟩ <;> rfl
  | cons a m =>
    rcases hv with ⟨rfl, rfl⟩ | ⟨b, o, c, rfl, h2, h3, h4⟩
    · refine ⟨.slice (some ⟨H.next, 0, none⟩) (m.length + 1) n, H.push (.cells ((a :: m).flatMap f)), rfl, ?_, Mod.push _ _ _, fun b hb => .inl ?_, fun _ => ⟨H.next, by simp, Nat.le_refl _⟩⟩
      · exact Own.mk (l := a :: m) hf (Has.new _ _)
      · simp [vblk] at hb; omega
    · refine ⟨.slice (some ⟨H.next, 0, none⟩) (l.length + (m.length + 1)) n, (H.set b none).push (.cells (l.flatMap f ++ (a :: m).flatMap f)), ?_, ?_, ?_, fun b hb => .inl ?_, fun _ => ⟨H.next, by simp, Nat.le_refl _⟩⟩
      · simp only [List.length_cons, appendTo, Nat_beq_eq', decide_true, cells_at h2.row h3, h4, h2.2, mayWrite, app_eq]
      · rw [← List.flatMap_append, show l.length + (m.length + 1) = (l ++ a :: m).length by simp]
        exact Own.mk hf (Has.new (H.set b none) _)
      · exact (Mod.set (F := fun b' => vblk (.slice (some ⟨b, o, none⟩) l.length n) = some b') rfl none).trans (Mod.push _ _ _)
      · simp [vblk] at hb; omega

/-- One more. -/
theorem append_one (hn : 0 < n) (hf : ∀ x, (f x).length = n) (hone : ∀ x, (f x).all oneCell = true) (hv : Own H v n f l) (a : α) (hb : (l.length + 1) * w ≤ 1099511627776) (hb' : l.length + 1 ≤ 1099511627776) :
    ∃ v' H', appendA (some (n, w)) v (.slice (some ⟨H.next, 0, none⟩) 1 n) (box H (f a)) = some (v', H') ∧ Own H' v' n f (l ++ [a]) ∧ Mod (fun b => vblk v = some b) H H' ∧ (∀ b, vblk v' = some b → H.next < b) := by
  have hu : Sl (box H (f a)) (.slice (some ⟨H.next, 0, none⟩) [a].length n) n f [a] := Sl.mk hf (by simpa using (has_box H (f a)).row)
  obtain ⟨v', H', h1, h2, h3, h4, h5⟩ := append_own (w := w) hn hf hone (hv.ext (ext_box H (f a))) hu (by simpa using hb) (by simpa using hb')
  refine ⟨v', H', h1, h2, (ext_box H (f a)).mod.trans h3, fun b hb => ?_⟩
  obtain ⟨v0, rfl, h6⟩ := h5 (by simp)
  simp [vblk] at hb
  simp only [next_box] at h6
  omega
end

end Go.Abs

namespace Go.Abs

theorem pureRun_bind {α β : Type} (P : Program) : ∀ (s : Sem α) (f : α → Sem β) (a : α), pureRun P s = some a → pureRun P (s >>= f) = pureRun P (f a)
  | .pure b, f, a, h => by simp only [pureRun, Option.some.injEq] at h; subst h; rfl
  | .program k, f, a, h => by
    simp only [pureRun] at h
    exact pureRun_bind P (k P) f a h
  | .load .., _, _, h => by simp [pureRun] at h
  | .store .., _, _, h => by simp [pureRun] at h
  | .new .., _, _, h => by simp [pureRun] at h
  | .shape .., _, _, h => by simp [pureRun] at h
  | .freeze .., _, _, h => by simp [pureRun] at h
  | .frozen .., _, _, h => by simp [pureRun] at h
  | .getObj .., _, _, h => by simp [pureRun] at h
  | .setObj .., _, _, h => by simp [pureRun] at h
  | .choose .., _, _, h => by simp [pureRun] at h
  | .sys .., _, _, h => by simp [pureRun] at h
  | .mark .., _, _, h => by simp [pureRun] at h
  | .halt .., _, _, h => by simp [pureRun] at h

/-- The value is of the type's shape, and can be compared. -/
def reflOk (P : Program) : Nat → TypeId → Value → Bool
  | 0, _, _ => false
  | d + 1, t, x => match P.underlying t, x with
    | some .bool, .bool _ => true
    | some (.int _), .int _ _ => true
    | some .string, .string _ => true
    | some (.struct fields), .agg xs => !P.stoodInHeld t && fields.toList.all (fun f => match pureRun P (part f.type xs f.offset) with
      | some v => f.name != "_" && reflOk P d f.type v
      | none => false)
    | some (.array len elem), .agg xs => match sizeT P elem with
      | some n => (List.range len).all (fun i => match pureRun P (part elem xs (i * n)) with
        | some v => reflOk P d elem v
        | none => false)
      | none => false
    | _, _ => false

theorem pureRun_underlying (P : Program) (t : TypeId) {u : TypeDesc} (h : P.underlying t = some u) : pureRun P (underlying t) = some u := by
  simp only [underlying, program]
  show pureRun P (Sem.program fun p => _) = _
  simp only [pureRun]
  show pureRun P (match P.underlying t with | some d => pure d | none => stuck "no such type") = _
  rw [h]; rfl

theorem pureRun_yield (P : Program) {α σ : Type} (s : σ) (f : α → σ → Sem (ForInStep σ)) : ∀ (l : List α), (∀ x ∈ l, pureRun P (f x s) = some (.yield s)) → pureRun P (forIn l s f) = some s
  | [], _ => rfl
  | x :: l, h => by
    rw [List.forIn_cons, pureRun_bind P _ _ _ (h x (by simp))]
    exact pureRun_yield P s f l fun y hy => h y (by simp [hy])

theorem pureRun_program (P : Program) : pureRun P program = some P := rfl

theorem refl_equal (P : Program) : ∀ (d : Nat) (t : TypeId) (x : Value), reflOk P d t x = true → pureRun P (Op.equalIn d t x x) = some true
  | 0, _, _, h => by simp [reflOk] at h
  | d + 1, t, x, h => by
    unfold reflOk at h
    split at h
    · rename_i hu
      unfold Op.equalIn
      rw [pureRun_bind P _ _ _ (pureRun_underlying P t hu)]
      simp [pureRun]
      rfl
    · rename_i hu
      unfold Op.equalIn
      rw [pureRun_bind P _ _ _ (pureRun_underlying P t hu)]
      simp [pureRun]
      rfl
    · rename_i hu
      unfold Op.equalIn
      rw [pureRun_bind P _ _ _ (pureRun_underlying P t hu)]
      rename_i z
      show some (z == z) = some true
      rcases z with ⟨a⟩
      congr 1
      first
      | (exact beq_self_eq_true _)
      | (show (a == a) = true; exact beq_self_eq_true a)
      | (simp [BEq.beq]; done)
      | (rw [show ((ByteArray.mk a) == ⟨a⟩) = (a == a) from rfl]; simp)
    · rename_i fields xs hu
      simp only [Bool.and_eq_true, List.all_eq_true, Bool.not_eq_true'] at h
      unfold Op.equalIn
      rw [pureRun_bind P _ _ _ (pureRun_underlying P t hu)]
      simp only
      rw [pureRun_bind P _ _ _ (pureRun_program P), h.1]
      simp only [Bool.false_eq_true, if_false]
      have key : pureRun P (forIn fields ((none, ()) : Option Bool × Unit) fun f __s =>
          if f.name ≠ "_" then do
            let __do_lift ← part f.type xs f.offset
            let __do_lift_1 ← part f.type xs f.offset
            let __do_lift ← Op.equalIn d f.type __do_lift __do_lift_1
            if (!__do_lift) = true then pure (ForInStep.done (some false, ())) else pure (ForInStep.yield (none, ()))
          else pure (ForInStep.yield (none, ()))) = some (none, ()) := by
        rw [← Array.forIn_toList]
        refine pureRun_yield P _ _ _ fun f hf => ?_
        have hf' := h.2 f hf
        split at hf'
        · rename_i v hv
          simp only [Bool.and_eq_true, bne_iff_ne, ne_eq] at hf'
          rw [if_pos hf'.1, pureRun_bind P _ _ _ hv, pureRun_bind P _ _ _ hv, pureRun_bind P _ _ _ (refl_equal P d _ _ hf'.2)]
          rfl
        · simp at hf'
      exact (pureRun_bind P _ _ (none, ()) key).trans rfl
    · rename_i len elem xs hu
      split at h
      · rename_i n hn
        simp only [List.all_eq_true] at h
        unfold Op.equalIn
        rw [pureRun_bind P _ _ _ (pureRun_underlying P t hu)]
        simp only
        have hsz : pureRun P (sizeOf elem) = some n := by
          simp only [sizeT] at hn
          split at hn
          · rename_i ti hti
            have h1 : pureRun P (typeInfo elem) = some ti := by
              show pureRun P (match P.info? elem with | some i => pure i | none => stuck "no such type") = _
              rw [hti]; rfl
            exact (pureRun_bind P _ _ _ h1).trans hn
          · simp at hn
        rw [pureRun_bind P _ _ _ hsz]
        refine (pureRun_bind P _ _ (none, ()) ?_).trans rfl
        rw [Std.Legacy.Range.forIn_eq_forIn_range']
        refine pureRun_yield P _ _ _ fun i hi => ?_
        have hi' := h i (by simpa [Std.Legacy.Range.size, List.mem_range'] using hi)
        split at hi'
        · rename_i v hv
          rw [pureRun_bind P _ _ _ hv, pureRun_bind P _ _ _ hv, pureRun_bind P _ _ _ (refl_equal P d _ _ hi')]
          rfl
        · simp at hi'
      · simp at h
    · simp at h
theorem flat_eq (P : Program) {t : TypeId} (ox oy : Operand) {cs : List Value} (h1 : P.eqGuardType P.depth t = false) (h2 : reflOk P 10000 t (.agg cs.toArray) = true) :
    pureRun P (eqGuard .neq t ox oy (.agg cs.toArray) (.agg cs.toArray)) = some () ∧ pureRun P (eqGuard .eql t ox oy (.agg cs.toArray) (.agg cs.toArray)) = some () ∧ pureRun P (Op.equal t (.agg cs.toArray) (.agg cs.toArray)) = some true := by
  refine ⟨?_, ?_, refl_equal P _ _ _ h2⟩
  · show pureRun P (if (!P.eqGuardType P.depth t) = true then _ else _) = _
    rw [h1]; rfl
  · show pureRun P (if (!P.eqGuardType P.depth t) = true then _ else _) = _
    rw [h1]; rfl

theorem agg_neq (P : Program) {t : TypeId} (ox oy : Operand) {cs : List Value} (h1 : P.eqGuardType P.depth t = false) (h2 : reflOk P 10000 t (.agg cs.toArray) = true) (h3 : cs.all scalar = true) :
    binA P .neq t ox oy (.agg cs.toArray) (.agg cs.toArray) = some (.bool false) := by
  obtain ⟨e1, _, e3⟩ := flat_eq P ox oy h1 h2
  have hf : flat (.agg cs.toArray) = true := h3
  show nilBin .neq (nilEq (descKind P t) (isConstA ox || isConstA oy) (.agg cs.toArray) (.agg cs.toArray)) (flatBin P .neq t ox oy (.agg cs.toArray) (.agg cs.toArray)) = _
  have e4 : pureRun P (binOp .neq t (.agg cs.toArray) (.agg cs.toArray)) = some (.bool false) := (pureRun_bind P (Op.equal t (.agg cs.toArray) (.agg cs.toArray)) (fun b => pure (Value.bool (!b))) true e3).trans rfl
  have e5 : pureRun P (do eqGuard .neq t ox oy (.agg cs.toArray) (.agg cs.toArray); binOp .neq t (.agg cs.toArray) (.agg cs.toArray)) = some (.bool false) := (pureRun_bind P _ _ _ e1).trans e4
  simp only [nilEq, nilBin, flatBin, hf, e5, keepScalar, scalar]
theorem agg_eql (P : Program) {t : TypeId} (ox oy : Operand) {cs : List Value} (h1 : P.eqGuardType P.depth t = false) (h2 : reflOk P 10000 t (.agg cs.toArray) = true) (h3 : cs.all scalar = true) :
    binA P .eql t ox oy (.agg cs.toArray) (.agg cs.toArray) = some (.bool true) := by
  obtain ⟨_, e1, e3⟩ := flat_eq P ox oy h1 h2
  have hf : flat (.agg cs.toArray) = true := h3
  show nilBin .eql (nilEq (descKind P t) (isConstA ox || isConstA oy) (.agg cs.toArray) (.agg cs.toArray)) (flatBin P .eql t ox oy (.agg cs.toArray) (.agg cs.toArray)) = _
  have e4 : pureRun P (binOp .eql t (.agg cs.toArray) (.agg cs.toArray)) = some (.bool true) := (pureRun_bind P (Op.equal t (.agg cs.toArray) (.agg cs.toArray)) (fun b => pure (Value.bool b)) true e3).trans rfl
  have e5 : pureRun P (do eqGuard .eql t ox oy (.agg cs.toArray) (.agg cs.toArray); binOp .eql t (.agg cs.toArray) (.agg cs.toArray)) = some (.bool true) := (pureRun_bind P _ _ _ e1).trans e4
  simp only [nilEq, nilBin, flatBin, hf, e5, keepScalar, scalar]

/-- A list by its places, the last one first: so that the kernel sees its cells. -/
def tab {α : Type} (f : Nat → α) : Nat → List α
  | 0 => []
  | k + 1 => f k :: tab f k
theorem tab_congr {α : Type} {f g : Nat → α} : ∀ k, (∀ i, i < k → f i = g i) → tab f k = tab g k
  | 0, _ => rfl
  | k + 1, h => by rw [tab, tab, h k (by omega), tab_congr k fun i hi => h i (by omega)]
theorem tab_of {α : Type} (z : α) : ∀ l : List α, l = tab (fun i => l.reverse.getD i z) l.length
  | [] => rfl
  | x :: l => by
    rw [List.length_cons, tab]
    congr 1
    · simp [List.getD]
    · refine (tab_of z l).trans (tab_congr _ fun i hi => ?_)
      simp only [List.reverse_cons, List.getD]
      rw [List.getElem?_append_left (by simpa using hi)]

end Go.Abs
