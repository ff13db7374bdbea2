/-
  WHAT THE TABLE's FUNCTIONS RECKON.
-/
import Derived.Test.YtbomdnmkhegfnaaGreatDoorKeep
import Derived.Test.YtbomdnmkhegfnaaGreatDoorFacts
import Derived.Test.YtbomdnmkhegfnaaGreatDoorTab
set_option linter.all false
namespace Go.Abs
open Go.Proofs Go.Tt

/-- Which of n things a number means. -/
def sparOf (x n : Int) : Int := (if x < 0 then -(x + 1) else x) % n

theorem sparOf_nn {x n : Int} (hn : 0 < n) : 0 ≤ sparOf x n := Int.emod_nonneg _ (by omega)
theorem sparOf_lt {x n : Int} (hn : 0 < n) : sparOf x n < n := Int.emod_lt_of_pos _ hn

def In64 (x : Int) : Prop := -9223372036854775808 ≤ x ∧ x ≤ 9223372036854775807
def InU (x : Int) : Prop := 0 ≤ x ∧ x ≤ 18446744073709551615

theorem s5 {m : Nat} (hm : 1 ≤ m) {x n : Int} (hx : In64 x) (hn : 0 < n) (H : AHeap) : ttD m 5 [.int .i64 x, .int .i64 n] H = some (.int .i64 (sparOf x n), H) := by
  obtain ⟨m, rfl⟩ : ∃ k, m = k + 1 := ⟨m - 1, by omega⟩
  refine ttD5 ?_
  obtain ⟨h1, h2⟩ := hx
  unfold tt5 sparOf
  by_cases h : x < 0
  · simp (disch := omega) only [bindS, boolKT, boolKF, natK0, natK1, natK2, natK3, natKS, chkKT, bin_add, bin_sub, bin_mul, bin_eql, bin_neq, bin_lss, bin_leq, bin_gtr, bin_geq, un_not, un_neg, conv_int, min_op, max_op, extract_nth, load_one, load_agg, agg_some, field_ptr, len_slice, len_str, len_arr, nil_check, nil_check_f, callTo_func, pick_true, pick_false, cells_agg, cells_int, cells_ptr, cells_slice, cells_bool, cells_str, push_box, getT_zero, getT_succ, List.getElem?_cons_zero, List.getElem?_cons_succ, List.cons_append, List.nil_append, Bool.not_true, Bool.not_false, ne_eq, not_true_eq_false, decide_false, decide_true, not_false_eq_true, Nat.add_zero, Nat.zero_add, new_box, fill_box1, fill_box1s, fill_box1p, fill_box1b, ↓reduceIte, List.all_cons, List.all_nil, Bool.and_true, Bool.and_self, one_int, one_ptr, one_slice, one_bool, one_str, one_nil, one_iface, List.length_cons, List.length_nil, boolK_pos, boolK_neg, boolK_npos, boolK_nneg, wrap_i64, wrap_u64, wrap_u8, wrap_u32, pick_pos, pick_neg, bin_quo_nn, bin_rem_nn, bin_shr1, if_pos h]
    rw [show (0 - (x + 1)) = -(x + 1) by omega]
  · simp (disch := omega) only [bindS, boolKT, boolKF, natK0, natK1, natK2, natK3, natKS, chkKT, bin_add, bin_sub, bin_mul, bin_eql, bin_neq, bin_lss, bin_leq, bin_gtr, bin_geq, un_not, un_neg, conv_int, min_op, max_op, extract_nth, load_one, load_agg, agg_some, field_ptr, len_slice, len_str, len_arr, nil_check, nil_check_f, callTo_func, pick_true, pick_false, cells_agg, cells_int, cells_ptr, cells_slice, cells_bool, cells_str, push_box, getT_zero, getT_succ, List.getElem?_cons_zero, List.getElem?_cons_succ, List.cons_append, List.nil_append, Bool.not_true, Bool.not_false, ne_eq, not_true_eq_false, decide_false, decide_true, not_false_eq_true, Nat.add_zero, Nat.zero_add, new_box, fill_box1, fill_box1s, fill_box1p, fill_box1b, ↓reduceIte, List.all_cons, List.all_nil, Bool.and_true, Bool.and_self, one_int, one_ptr, one_slice, one_bool, one_str, one_nil, one_iface, List.length_cons, List.length_nil, boolK_pos, boolK_neg, boolK_npos, boolK_nneg, wrap_i64, wrap_u64, wrap_u8, wrap_u32, pick_pos, pick_neg, bin_quo_nn, bin_rem_nn, bin_shr1, if_neg h]

def wcells (w : Win) : List Value := [.int .i64 w.part, .int .i64 w.start, .int .i64 w.ticks]
theorem wcells_len (w : Win) : (wcells w).length = 3 := rfl
abbrev tabV (T : Nat) (sl : Value) : Value := .agg [.int .i64 T, sl].toArray
theorem one_sl {α : Type} {H : AHeap} {v : Value} {n : Nat} {f : α → List Value} {l : List α} (h : Sl H v n f l) : oneCell v = true := by
  rcases h with ⟨_, h⟩ | ⟨b, o, c, h, _⟩ <;> subst h <;> rfl

/-- The closure of 'at': does a window end behind the place? -/
theorem s53 {m : Nat} (hm : 1 ≤ m) {H : AHeap} {bt bp T : Nat} {sl : Value} {ws : List Win} {place : Int} (hT : Row H bt [.int .i64 T, sl]) (hp : Row H bp [.int .i64 place]) (hs : Sl H sl 3 wcells ws)
    {i : Int} {w : Win} (h0 : 0 ≤ i) (hw : ws[i.toNat]? = some w) (hb : w.start + w.ticks ≤ 256) : ttD m 53 [.int .i64 i, .pointer (some ⟨bt, 0, none⟩), .pointer (some ⟨bp, 0, none⟩)] H = some (.bool (decide (place < (w.start : Int) + w.ticks)), H) := by
  obtain ⟨m, rfl⟩ : ∃ k, m = k + 1 := ⟨m - 1, by omega⟩
  refine ttD53 ?_
  unfold tt53
  obtain ⟨b, o, c, e1, _, _, _, e2, e3⟩ := hs.at wcells_len h0 hw .i64
  simp (disch := omega) only [bindS, boolKT, boolKF, natK0, natK1, natK2, natK3, natKS, chkKT, bin_add, bin_sub, bin_mul, bin_eql, bin_neq, bin_lss, bin_leq, bin_gtr, bin_geq, un_not, un_neg, conv_int, min_op, max_op, extract_nth, load_one, load_agg, agg_some, field_ptr, len_slice, len_str, len_arr, nil_check, nil_check_f, callTo_func, pick_true, pick_false, cells_agg, cells_int, cells_ptr, cells_slice, cells_bool, cells_str, push_box, getT_zero, getT_succ, List.getElem?_cons_zero, List.getElem?_cons_succ, List.cons_append, List.nil_append, Bool.not_true, Bool.not_false, ne_eq, not_true_eq_false, decide_false, decide_true, not_false_eq_true, Nat.add_zero, Nat.zero_add, new_box, fill_box1, fill_box1s, fill_box1p, fill_box1b, ↓reduceIte, List.all_cons, List.all_nil, Bool.and_true, Bool.and_self, one_int, one_ptr, one_slice, one_bool, one_str, one_nil, one_iface, List.length_cons, List.length_nil, boolK_pos, boolK_neg, boolK_npos, boolK_nneg, wrap_i64, wrap_u64, wrap_u8, wrap_u32, pick_pos, pick_neg, bin_quo_nn, bin_rem_nn, bin_shr1, cell_at hT, cell_at hp, e1, e3 1 (by omega), e3 2 (by omega), wcells]

/-- The first window that ends behind a place. -/
def FirstEnd (ws : List Win) (place : Int) (r : Nat) : Prop := r ≤ ws.length ∧ (∀ (x : Nat) (w : Win), x < r → ws[x]? = some w → (w.start : Int) + w.ticks ≤ place) ∧ ∀ (x : Nat) (w : Win), r ≤ x → ws[x]? = some w → place < (w.start : Int) + w.ticks

theorem s52 {m : Nat} (hm : 2 ≤ m) {H : AHeap} {bt bp T : Nat} {sl : Value} {ws : List Win} {place : Int} (hT : Row H bt [.int .i64 T, sl]) (hp : Row H bp [.int .i64 place]) (hs : Sl H sl 3 wcells ws)
    (hf : Fits 256 0 ws) (hl : ws.length ≤ 10) : ∃ r, FirstEnd ws place r ∧ ttD m 52 [.int .i64 ws.length, .func (.func 53) #[] [.pointer (some ⟨bt, 0, none⟩), .pointer (some ⟨bp, 0, none⟩)].toArray] H = some (.int .i64 r, H) := by
  obtain ⟨m, rfl⟩ : ∃ k, m = k + 1 := ⟨m - 1, by omega⟩
  have key := iter_inv (b := tt52l2b (ttD m)) (I := fun d vs H' => H' = H ∧ ∃ i j : Nat, d = j - i ∧ i ≤ j ∧ j ≤ ws.length ∧ vs = [.func (.func 53) #[] [.pointer (some ⟨bt, 0, none⟩), .pointer (some ⟨bp, 0, none⟩)].toArray, .int .i64 i, .int .i64 j] ∧
      (∀ (x : Nat) (w : Win), x < i → ws[x]? = some w → (w.start : Int) + w.ticks ≤ place) ∧ (∀ (x : Nat) (w : Win), j ≤ x → ws[x]? = some w → place < (w.start : Int) + w.ticks))
    (Q := fun k vs H' => k = 0 ∧ H' = H ∧ ∃ r : Nat, FirstEnd ws place r ∧ getT vs 1 = .int .i64 r) ?_ ws.length rounds _ H ⟨rfl, 0, ws.length, by omega, by omega, by omega, rfl, by intro x w hx; omega, by intro x w hx hw; have := (List.getElem?_eq_some_iff.1 hw).1; omega⟩ (lt_rounds (by omega))
  · obtain ⟨j, vs', H', e, rfl, rfl, r, hr, hv⟩ := key
    refine ⟨r, hr, ttD52 ?_⟩
    unfold tt52
    rw [show iterL (tt52l2b (ttD m)) rounds [.func (.func 53) #[] [.pointer (some ⟨bt, 0, none⟩), .pointer (some ⟨bp, 0, none⟩)].toArray, .int .i64 0, .int .i64 ws.length] H' = some (0, vs', H') from e]
    simp only [Option.bind_some, natK_zero, hv]
  · rintro d vs H' ⟨rfl, i, j, rfl, hij, hj, rfl, h1, h2⟩
    by_cases hlt : i < j
    · left
      have hh : (((i : Int) + j) / 2).toNat < ws.length := by omega
      have hw := List.getElem?_eq_getElem hh
      have hle := hf.le _ (List.getElem_mem hh)
      have hc := s53 (m := m) (by omega) hT hp hs (i := ((i : Int) + j) / 2) (by omega) hw hle
      by_cases hb : place < (ws[(((i : Int) + j) / 2).toNat].start : Int) + ws[(((i : Int) + j) / 2).toNat].ticks
      · refine ⟨(i + j) / 2 - i, _, _, ?_, by omega, rfl, i, (i + j) / 2, rfl, by omega, by omega, rfl, h1, fun x w hx hw' => ?_⟩
        · unfold tt52l2b tt52l2
          simp (disch := omega) only [bindS, boolKT, boolKF, natK0, natK1, natK2, natK3, natKS, chkKT, bin_add, bin_sub, bin_mul, bin_eql, bin_neq, bin_lss, bin_leq, bin_gtr, bin_geq, un_not, un_neg, conv_int, min_op, max_op, extract_nth, load_one, load_agg, agg_some, field_ptr, len_slice, len_str, len_arr, nil_check, nil_check_f, callTo_func, pick_true, pick_false, cells_agg, cells_int, cells_ptr, cells_slice, cells_bool, cells_str, push_box, getT_zero, getT_succ, List.getElem?_cons_zero, List.getElem?_cons_succ, List.cons_append, List.nil_append, Bool.not_true, Bool.not_false, ne_eq, not_true_eq_false, decide_false, decide_true, not_false_eq_true, Nat.add_zero, Nat.zero_add, new_box, fill_box1, fill_box1s, fill_box1p, fill_box1b, ↓reduceIte, List.all_cons, List.all_nil, Bool.and_true, Bool.and_self, one_int, one_ptr, one_slice, one_bool, one_str, one_nil, one_iface, List.length_cons, List.length_nil, boolK_pos, boolK_neg, boolK_npos, boolK_nneg, wrap_i64, wrap_u64, wrap_u8, wrap_u32, pick_pos, pick_neg, bin_quo_nn, bin_rem_nn, bin_shr1, hc]
          rw [show (((i + j) / 2 : Nat) : Int) = ((i : Int) + j) / 2 by omega]
        · rcases Nat.lt_or_ge (((i : Int) + j) / 2).toNat x with hlt' | hge
          · have := hf.order _ _ _ _ hlt' hw hw'; omega
          · obtain rfl : x = (((i : Int) + j) / 2).toNat := by omega
            rw [hw] at hw'; obtain rfl := Option.some.inj hw'; exact hb
      · refine ⟨j - ((i + j) / 2 + 1), _, _, ?_, by omega, rfl, (i + j) / 2 + 1, j, rfl, by omega, by omega, rfl, fun x w hx hw' => ?_, h2⟩
        · unfold tt52l2b tt52l2
          simp (disch := omega) only [bindS, boolKT, boolKF, natK0, natK1, natK2, natK3, natKS, chkKT, bin_add, bin_sub, bin_mul, bin_eql, bin_neq, bin_lss, bin_leq, bin_gtr, bin_geq, un_not, un_neg, conv_int, min_op, max_op, extract_nth, load_one, load_agg, agg_some, field_ptr, len_slice, len_str, len_arr, nil_check, nil_check_f, callTo_func, pick_true, pick_false, cells_agg, cells_int, cells_ptr, cells_slice, cells_bool, cells_str, push_box, getT_zero, getT_succ, List.getElem?_cons_zero, List.getElem?_cons_succ, List.cons_append, List.nil_append, Bool.not_true, Bool.not_false, ne_eq, not_true_eq_false, decide_false, decide_true, not_false_eq_true, Nat.add_zero, Nat.zero_add, new_box, fill_box1, fill_box1s, fill_box1p, fill_box1b, ↓reduceIte, List.all_cons, List.all_nil, Bool.and_true, Bool.and_self, one_int, one_ptr, one_slice, one_bool, one_str, one_nil, one_iface, List.length_cons, List.length_nil, boolK_pos, boolK_neg, boolK_npos, boolK_nneg, wrap_i64, wrap_u64, wrap_u8, wrap_u32, pick_pos, pick_neg, bin_quo_nn, bin_rem_nn, bin_shr1, hc]
          rw [show (((i + j) / 2 + 1 : Nat) : Int) = ((i : Int) + j) / 2 + 1 by omega]
        · rcases Nat.lt_or_ge x (((i : Int) + j) / 2).toNat with hlt' | hge
          · have := hf.order _ _ _ _ hlt' hw' hw; omega
          · obtain rfl : x = (((i : Int) + j) / 2).toNat := by omega
            rw [hw] at hw'; obtain rfl := Option.some.inj hw'; omega
    · right
      obtain rfl : i = j := by omega
      refine ⟨0, [.func (.func 53) #[] [.pointer (some ⟨bt, 0, none⟩), .pointer (some ⟨bp, 0, none⟩)].toArray, .int .i64 i, .int .i64 i], _, ?_, rfl, rfl, i, ⟨hj, h1, h2⟩, rfl⟩
      unfold tt52l2b tt52l2
      simp (disch := omega) only [bindS, boolKT, boolKF, natK0, natK1, natK2, natK3, natKS, chkKT, bin_add, bin_sub, bin_mul, bin_eql, bin_neq, bin_lss, bin_leq, bin_gtr, bin_geq, un_not, un_neg, conv_int, min_op, max_op, extract_nth, load_one, load_agg, agg_some, field_ptr, len_slice, len_str, len_arr, nil_check, nil_check_f, callTo_func, pick_true, pick_false, cells_agg, cells_int, cells_ptr, cells_slice, cells_bool, cells_str, push_box, getT_zero, getT_succ, List.getElem?_cons_zero, List.getElem?_cons_succ, List.cons_append, List.nil_append, Bool.not_true, Bool.not_false, ne_eq, not_true_eq_false, decide_false, decide_true, not_false_eq_true, Nat.add_zero, Nat.zero_add, new_box, fill_box1, fill_box1s, fill_box1p, fill_box1b, ↓reduceIte, List.all_cons, List.all_nil, Bool.and_true, Bool.and_self, one_int, one_ptr, one_slice, one_bool, one_str, one_nil, one_iface, List.length_cons, List.length_nil, boolK_pos, boolK_neg, boolK_npos, boolK_nneg, wrap_i64, wrap_u64, wrap_u8, wrap_u32, pick_pos, pick_neg, bin_quo_nn, bin_rem_nn, bin_shr1]

/-- The window at a place. -/
theorem s34 {m : Nat} (hm : 3 ≤ m) {H : AHeap} {T : Nat} {sl : Value} {ws : List Win} {who which : List Int} (hs : Sl H sl 3 wcells ws) (hy : Lay ws who which) (hT : who.length ≤ T) (hT' : T ≤ 256) (hl : ws.length ≤ 10)
    {place : Nat} (hp : place < who.length) : ∃ r H', which[place]? = some r ∧ ttD m 34 [tabV T sl, .int .i64 place] H = some (.int .i64 r, H') ∧ Ext H H' := by
  obtain ⟨m, rfl⟩ : ∃ k, m = k + 1 := ⟨m - 1, by omega⟩
  have hf : Fits 256 0 ws := hy.fits.mono (by omega)
  have hxt : Ext H (box (box H [.int .i64 T, sl]) [.int .i64 place]) := (ext_box _ _).trans (ext_box _ _)
  have r1 : Row (box (box H [.int .i64 T, sl]) [.int .i64 place]) H.next [.int .i64 T, sl] := (has_box _ _).row.box _
  have r2 : Row (box (box H [.int .i64 T, sl]) [.int .i64 place]) (H.next + 1) [.int .i64 place] := (has_box (box H [.int .i64 T, sl]) _).row
  have hs' := hs.ext hxt
  obtain ⟨r, hr, e⟩ := s52 (m := m) (by omega) r1 r2 hs' hf hl
  have h1 : ∀ (x : Nat) (w : Win), x < r → ws[x]? = some w → w.start + w.ticks ≤ place := fun x w hx hw => by have := hr.2.1 x w hx hw; omega
  have h2 : ∀ (x : Nat) (w : Win), r ≤ x → ws[x]? = some w → place < w.start + w.ticks := fun x w hx hw => by have := hr.2.2 x w hx hw; omega
  refine ⟨_, _, hy.search hp h1 h2, ttD34 ?_, hxt⟩
  unfold tt34 atR
  have hone := one_sl hs
  by_cases hrl : r < ws.length
  · have hw := List.getElem?_eq_getElem hrl
    obtain ⟨b, o, c, e1, _, _, _, e2, e3⟩ := hs'.at wcells_len (i := (r : Int)) (by omega) (x := ws[r]) (by simpa using hw) .i64
    by_cases hst : ws[r].start ≤ place
    · simp (disch := omega) only [bindS, boolKT, boolKF, natK0, natK1, natK2, natK3, natKS, chkKT, bin_add, bin_sub, bin_mul, bin_eql, bin_neq, bin_lss, bin_leq, bin_gtr, bin_geq, un_not, un_neg, conv_int, min_op, max_op, extract_nth, load_one, load_agg, agg_some, field_ptr, len_slice, len_str, len_arr, nil_check, nil_check_f, callTo_func, pick_true, pick_false, cells_agg, cells_int, cells_ptr, cells_slice, cells_bool, cells_str, push_box, getT_zero, getT_succ, List.getElem?_cons_zero, List.getElem?_cons_succ, List.cons_append, List.nil_append, Bool.not_true, Bool.not_false, ne_eq, not_true_eq_false, decide_false, decide_true, not_false_eq_true, Nat.add_zero, Nat.zero_add, new_box, fill_box1, fill_box1s, fill_box1p, fill_box1b, ↓reduceIte, List.all_cons, List.all_nil, Bool.and_true, Bool.and_self, one_int, one_ptr, one_slice, one_bool, one_str, one_nil, one_iface, List.length_cons, List.length_nil, boolK_pos, boolK_neg, boolK_npos, boolK_nneg, wrap_i64, wrap_u64, wrap_u8, wrap_u32, pick_pos, pick_neg, bin_quo_nn, bin_rem_nn, bin_shr1, hone, next_box, cell_at r1, cell_at r2, hs'.len, e, e1, e3 1 (by omega), wcells, hw, if_pos hst]
    · simp (disch := omega) only [bindS, boolKT, boolKF, natK0, natK1, natK2, natK3, natKS, chkKT, bin_add, bin_sub, bin_mul, bin_eql, bin_neq, bin_lss, bin_leq, bin_gtr, bin_geq, un_not, un_neg, conv_int, min_op, max_op, extract_nth, load_one, load_agg, agg_some, field_ptr, len_slice, len_str, len_arr, nil_check, nil_check_f, callTo_func, pick_true, pick_false, cells_agg, cells_int, cells_ptr, cells_slice, cells_bool, cells_str, push_box, getT_zero, getT_succ, List.getElem?_cons_zero, List.getElem?_cons_succ, List.cons_append, List.nil_append, Bool.not_true, Bool.not_false, ne_eq, not_true_eq_false, decide_false, decide_true, not_false_eq_true, Nat.add_zero, Nat.zero_add, new_box, fill_box1, fill_box1s, fill_box1p, fill_box1b, ↓reduceIte, List.all_cons, List.all_nil, Bool.and_true, Bool.and_self, one_int, one_ptr, one_slice, one_bool, one_str, one_nil, one_iface, List.length_cons, List.length_nil, boolK_pos, boolK_neg, boolK_npos, boolK_nneg, wrap_i64, wrap_u64, wrap_u8, wrap_u32, pick_pos, pick_neg, bin_quo_nn, bin_rem_nn, bin_shr1, hone, next_box, cell_at r1, cell_at r2, hs'.len, e, e1, e3 1 (by omega), wcells, hw, if_neg hst]
  · have hw : ws[r]? = none := List.getElem?_eq_none (by omega)
    simp (disch := omega) only [bindS, boolKT, boolKF, natK0, natK1, natK2, natK3, natKS, chkKT, bin_add, bin_sub, bin_mul, bin_eql, bin_neq, bin_lss, bin_leq, bin_gtr, bin_geq, un_not, un_neg, conv_int, min_op, max_op, extract_nth, load_one, load_agg, agg_some, field_ptr, len_slice, len_str, len_arr, nil_check, nil_check_f, callTo_func, pick_true, pick_false, cells_agg, cells_int, cells_ptr, cells_slice, cells_bool, cells_str, push_box, getT_zero, getT_succ, List.getElem?_cons_zero, List.getElem?_cons_succ, List.cons_append, List.nil_append, Bool.not_true, Bool.not_false, ne_eq, not_true_eq_false, decide_false, decide_true, not_false_eq_true, Nat.add_zero, Nat.zero_add, new_box, fill_box1, fill_box1s, fill_box1p, fill_box1b, ↓reduceIte, List.all_cons, List.all_nil, Bool.and_true, Bool.and_self, one_int, one_ptr, one_slice, one_bool, one_str, one_nil, one_iface, List.length_cons, List.length_nil, boolK_pos, boolK_neg, boolK_npos, boolK_nneg, wrap_i64, wrap_u64, wrap_u8, wrap_u32, pick_pos, pick_neg, bin_quo_nn, bin_rem_nn, bin_shr1, hone, next_box, cell_at r1, cell_at r2, hs'.len, e, hw]

theorem s6 {m : Nat} (hm : 1 ≤ m) {H : AHeap} {T : Nat} {sl : Value} {ws : List Win} (hs : Sl H sl 3 wcells ws) (hf : Fits T 0 ws) (h1 : 1 ≤ T) (hT : T ≤ 256) (hl : ws.length ≤ 10) :
    ∃ H', ttD m 6 [tabV T sl] H = some (.nilIface, H') ∧ Ext H H' := by
  obtain ⟨m, rfl⟩ : ∃ k, m = k + 1 := ⟨m - 1, by omega⟩
  have hone := one_sl hs
  have hx0 := ext_box H [.int .i64 T, sl]
  have r0 : Row (box H [.int .i64 T, sl]) H.next [.int .i64 T, sl] := (has_box _ _).row
  obtain ⟨j, vs', H', e, rfl, hx⟩ := iter_inv (b := tt6l5b (ttD m)) (I := fun d vs H' => Ext (box H [.int .i64 T, sl]) H' ∧ ∃ i e : Nat, d = ws.length - i ∧ i ≤ ws.length ∧ e ≤ T ∧ Fits T e (ws.drop i) ∧
      vs = [.pointer (some ⟨H.next, 0, none⟩), .nilIface, .int .i64 (e : Int), sl, .int .i64 ws.length, .int .i64 (i : Int)])
    (Q := fun k vs H' => k = 0 ∧ Ext (box H [.int .i64 T, sl]) H') (by
    rintro d vs H' ⟨hx, i, e, rfl, hi, he, hfi, rfl⟩
    have r0' := r0.ext hx
    have hs' := (hs.ext hx0).ext hx
    by_cases hlt : i < ws.length
    · left
      have hw := List.getElem?_eq_getElem hlt
      rw [List.drop_eq_getElem_cons hlt] at hfi
      obtain ⟨g1, g2, g3, g4, g5, g6⟩ := hfi
      obtain ⟨b, o, c, e1, _, _, _, e2, e3⟩ := hs'.at wcells_len (i := (i : Int)) (by omega) (x := ws[i]) hw .i64
      have hb := has_boxed H' [.int .i64 0, .int .i64 0, .int .i64 0] (wcells ws[i])
      have hxb := ext_boxed H' [.int .i64 0, .int .i64 0, .int .i64 0] (wcells ws[i])
      have r1 := r0'.ext hxb
      refine ⟨ws.length - (i + 1), _, _, ?_, by omega, hx.trans hxb, i + 1, ws[i].start + ws[i].ticks, rfl, by omega, g5, g6, rfl⟩
      have hfb := fill_box H' [.int .i64 0, .int .i64 0, .int .i64 0] (wcells ws[i]) 3 rfl
      simp only [wcells] at hb r1 e2 hfb ⊢
      unfold tt6l5b tt6l5 tt6j38 tt6j21
      simp (disch := omega) only [bindS, boolKT, boolKF, natK0, natK1, natK2, natK3, natKS, chkKT, bin_add, bin_sub, bin_mul, bin_eql, bin_neq, bin_lss, bin_leq, bin_gtr, bin_geq, un_not, un_neg, conv_int, min_op, max_op, extract_nth, load_one, load_agg, agg_some, field_ptr, len_slice, len_str, len_arr, nil_check, nil_check_f, callTo_func, pick_true, pick_false, cells_agg, cells_int, cells_ptr, cells_slice, cells_bool, cells_str, push_box, getT_zero, getT_succ, List.getElem?_cons_zero, List.getElem?_cons_succ, List.cons_append, List.nil_append, Bool.not_true, Bool.not_false, ne_eq, not_true_eq_false, decide_false, decide_true, not_false_eq_true, Nat.add_zero, Nat.zero_add, new_box, fill_box1, fill_box1s, fill_box1p, fill_box1b, ↓reduceIte, List.all_cons, List.all_nil, Bool.and_true, Bool.and_self, one_int, one_ptr, one_slice, one_bool, one_str, one_nil, one_iface, List.length_cons, List.length_nil, boolK_pos, boolK_neg, boolK_npos, boolK_nneg, wrap_i64, wrap_u64, wrap_u8, wrap_u32, pick_pos, pick_neg, bin_quo_nn, bin_rem_nn, bin_shr1, e1, e2, hfb, cell_at hb.row, cell_at r1]
      simp
    · right
      obtain rfl : i = ws.length := by omega
      exact ⟨0, _, _, by unfold tt6l5b tt6l5; simp (disch := omega) only [bindS, boolKT, boolKF, natK0, natK1, natK2, natK3, natKS, chkKT, bin_add, bin_sub, bin_mul, bin_eql, bin_neq, bin_lss, bin_leq, bin_gtr, bin_geq, un_not, un_neg, conv_int, min_op, max_op, extract_nth, load_one, load_agg, agg_some, field_ptr, len_slice, len_str, len_arr, nil_check, nil_check_f, callTo_func, pick_true, pick_false, cells_agg, cells_int, cells_ptr, cells_slice, cells_bool, cells_str, push_box, getT_zero, getT_succ, List.getElem?_cons_zero, List.getElem?_cons_succ, List.cons_append, List.nil_append, Bool.not_true, Bool.not_false, ne_eq, not_true_eq_false, decide_false, decide_true, not_false_eq_true, Nat.add_zero, Nat.zero_add, new_box, fill_box1, fill_box1s, fill_box1p, fill_box1b, ↓reduceIte, List.all_cons, List.all_nil, Bool.and_true, Bool.and_self, one_int, one_ptr, one_slice, one_bool, one_str, one_nil, one_iface, List.length_cons, List.length_nil, boolK_pos, boolK_neg, boolK_npos, boolK_nneg, wrap_i64, wrap_u64, wrap_u8, wrap_u32, pick_pos, pick_neg, bin_quo_nn, bin_rem_nn, bin_shr1]; rfl, rfl, hx⟩)
    ws.length rounds _ (box H [.int .i64 T, sl]) ⟨Mod.refl, 0, 0, by omega, by omega, by omega, hf, rfl⟩ (lt_rounds (by omega))
  refine ⟨H', ttD6 ?_, hx0.trans hx⟩
  unfold tt6
  simp (disch := omega) only [bindS, boolKT, boolKF, natK0, natK1, natK2, natK3, natKS, chkKT, bin_add, bin_sub, bin_mul, bin_eql, bin_neq, bin_lss, bin_leq, bin_gtr, bin_geq, un_not, un_neg, conv_int, min_op, max_op, extract_nth, load_one, load_agg, agg_some, field_ptr, len_slice, len_str, len_arr, nil_check, nil_check_f, callTo_func, pick_true, pick_false, cells_agg, cells_int, cells_ptr, cells_slice, cells_bool, cells_str, push_box, getT_zero, getT_succ, List.getElem?_cons_zero, List.getElem?_cons_succ, List.cons_append, List.nil_append, Bool.not_true, Bool.not_false, ne_eq, not_true_eq_false, decide_false, decide_true, not_false_eq_true, Nat.add_zero, Nat.zero_add, new_box, fill_box1, fill_box1s, fill_box1p, fill_box1b, ↓reduceIte, List.all_cons, List.all_nil, Bool.and_true, Bool.and_self, one_int, one_ptr, one_slice, one_bool, one_str, one_nil, one_iface, List.length_cons, List.length_nil, boolK_pos, boolK_neg, boolK_npos, boolK_nneg, wrap_i64, wrap_u64, wrap_u8, wrap_u32, pick_pos, pick_neg, bin_quo_nn, bin_rem_nn, bin_shr1, hone, cell_at r0, hs.len]
  rw [show iterL (tt6l5b (ttD m)) rounds [.pointer (some ⟨H.next, 0, none⟩), .nilIface, .int .i64 0, sl, .int .i64 ws.length, .int .i64 0] (box H [.int .i64 T, sl]) = some (0, vs', H') from e]
  simp only [Option.bind_some, natK_zero]


/-- A table that may be, in memory. -/
structure TabOk (H : AHeap) (sl : Value) (ws : List Win) (who which : List Int) : Prop where
  sl : Sl H sl 3 wcells ws
  lay : Lay ws who which
  pos : 1 ≤ who.length
  le : who.length ≤ 256
  few : ws.length ≤ 10

theorem TabOk.ext {H H' : AHeap} {sl : Value} {ws who which} (h : TabOk H sl ws who which) (hx : Ext H H') : TabOk H' sl ws who which := ⟨h.sl.ext hx, h.lay, h.pos, h.le, h.few⟩

theorem place_of {T : Nat} (hT : 1 ≤ T) {tick : Int} (ht : InU tick) : ∃ p : Nat, tick % (T : Int) = p ∧ p < T := by
  have h1 := Int.emod_nonneg tick (show (T : Int) ≠ 0 by omega)
  have h2 := Int.emod_lt_of_pos tick (show (0 : Int) < T by omega)
  exact ⟨(tick % T).toNat, by omega, by omega⟩

theorem check_ok {m : Nat} (hm : 1 ≤ m) {H : AHeap} {sl : Value} {ws who which} (h : TabOk H sl ws who which) : ∃ H', ttD m 6 [tabV who.length sl] H = some (.nilIface, H') ∧ Ext H H' :=
  s6 hm h.sl h.lay.fits h.pos h.le h.few

theorem s8 {m : Nat} (hm : 4 ≤ m) {H : AHeap} {sl : Value} {ws who which} (h : TabOk H sl ws who which) {tick : Int} (ht : InU tick) {p : Nat} (hp : tick % (who.length : Int) = p) (hp' : p < who.length) :
    ∃ r H', which[p]? = some r ∧ ttD m 8 [tabV who.length sl, .int .u64 tick] H = some (.int .i64 r, H') ∧ Ext H H' := by
  obtain ⟨m, rfl⟩ : ∃ k, m = k + 1 := ⟨m - 1, by omega⟩
  have hone := one_sl h.sl
  have hx0 := ext_box H [.int .i64 who.length, sl]
  have r0 : Row (box H [.int .i64 who.length, sl]) H.next [.int .i64 who.length, sl] := (has_box _ _).row
  obtain ⟨H1, c1, x1⟩ := check_ok (m := m) (by omega) (h.ext hx0)
  have r1 := r0.ext x1
  obtain ⟨r, H2, hr, c2, x2⟩ := s34 (m := m) (by omega) ((h.ext hx0).ext x1).sl h.lay (Nat.le_refl _) h.le h.few hp'
  refine ⟨r, H2, hr, ttD8 ?_, (hx0.trans x1).trans x2⟩
  obtain ⟨ht1, ht2⟩ := ht
  have h1 := h.pos
  have h2 := h.le
  unfold tt8
  simp (disch := omega) only [bindS, boolKT, boolKF, natK0, natK1, natK2, natK3, natKS, chkKT, bin_add, bin_sub, bin_mul, bin_eql, bin_neq, bin_lss, bin_leq, bin_gtr, bin_geq, un_not, un_neg, conv_int, min_op, max_op, extract_nth, load_one, load_agg, agg_some, field_ptr, len_slice, len_str, len_arr, nil_check, nil_check_f, callTo_func, pick_true, pick_false, cells_agg, cells_int, cells_ptr, cells_slice, cells_bool, cells_str, push_box, getT_zero, getT_succ, List.getElem?_cons_zero, List.getElem?_cons_succ, List.cons_append, List.nil_append, Bool.not_true, Bool.not_false, ne_eq, not_true_eq_false, decide_false, decide_true, not_false_eq_true, Nat.add_zero, Nat.zero_add, new_box, fill_box1, fill_box1s, fill_box1p, fill_box1b, ↓reduceIte, List.all_cons, List.all_nil, Bool.and_true, Bool.and_self, one_int, one_ptr, one_slice, one_bool, one_str, one_nil, one_iface, List.length_cons, List.length_nil, boolK_pos, boolK_neg, boolK_npos, boolK_nneg, wrap_i64, wrap_u64, wrap_u8, wrap_u32, pick_pos, pick_neg, bin_quo_nn, bin_rem_nn, bin_shr1, hone, cell_at r0, cells_at r0 (o := 0) (n := 2) (by simp), List.drop_zero, List.take_succ_cons, List.take_zero, c1, nil_ne_nil _ _ dk35, cell_at r1, cells_at r1 (o := 0) (n := 2) (by simp), hp, c2]

theorem s7 {m : Nat} (hm : 5 ≤ m) {H : AHeap} {sl : Value} {ws who which} (h : TabOk H sl ws who which) {tick : Int} (ht : InU tick) {p : Nat} (hp : tick % (who.length : Int) = p) (hp' : p < who.length) :
    ∃ r H', who[p]? = some r ∧ ttD m 7 [tabV who.length sl, .int .u64 tick] H = some (.int .i64 r, H') ∧ Ext H H' := by
  obtain ⟨m, rfl⟩ : ∃ k, m = k + 1 := ⟨m - 1, by omega⟩
  have hone := one_sl h.sl
  have hx0 := ext_box H [.int .i64 who.length, sl]
  have r0 : Row (box H [.int .i64 who.length, sl]) H.next [.int .i64 who.length, sl] := (has_box _ _).row
  obtain ⟨r, H1, hr, c1, x1⟩ := s8 (m := m) (by omega) (h.ext hx0) ht hp hp'
  have r1 := r0.ext x1
  rcases h.lay.who hp' with ⟨i, w, g1, g2, g3⟩ | ⟨g1, g2⟩
  · rw [g1] at hr; obtain rfl := Option.some.inj hr
    obtain ⟨b, o, c, e1, _, _, _, e2, e3⟩ := ((h.ext hx0).ext x1).sl.at wcells_len (i := (i : Int)) (by omega) (x := w) g2 .i64
    refine ⟨_, H1, g3, ttD7 ?_, hx0.trans x1⟩
    unfold tt7
    simp (disch := omega) only [bindS, boolKT, boolKF, natK0, natK1, natK2, natK3, natKS, chkKT, bin_add, bin_sub, bin_mul, bin_eql, bin_neq, bin_lss, bin_leq, bin_gtr, bin_geq, un_not, un_neg, conv_int, min_op, max_op, extract_nth, load_one, load_agg, agg_some, field_ptr, len_slice, len_str, len_arr, nil_check, nil_check_f, callTo_func, pick_true, pick_false, cells_agg, cells_int, cells_ptr, cells_slice, cells_bool, cells_str, push_box, getT_zero, getT_succ, List.getElem?_cons_zero, List.getElem?_cons_succ, List.cons_append, List.nil_append, Bool.not_true, Bool.not_false, ne_eq, not_true_eq_false, decide_false, decide_true, not_false_eq_true, Nat.add_zero, Nat.zero_add, new_box, fill_box1, fill_box1s, fill_box1p, fill_box1b, ↓reduceIte, List.all_cons, List.all_nil, Bool.and_true, Bool.and_self, one_int, one_ptr, one_slice, one_bool, one_str, one_nil, one_iface, List.length_cons, List.length_nil, boolK_pos, boolK_neg, boolK_npos, boolK_nneg, wrap_i64, wrap_u64, wrap_u8, wrap_u32, pick_pos, pick_neg, bin_quo_nn, bin_rem_nn, bin_shr1, hone, cells_at r0 (o := 0) (n := 2) (by simp), List.drop_zero, List.take_succ_cons, List.take_zero, c1, cell_at r1, e1, e3 0 (by omega), wcells]
    have := e3 0 (by omega)
    simp only [Nat.add_zero, wcells] at this
    simp only [this, List.getElem?_cons_zero, Option.bind_some]
  · rw [g1] at hr; obtain rfl := Option.some.inj hr
    refine ⟨_, H1, g2, ttD7 ?_, hx0.trans x1⟩
    unfold tt7
    simp (disch := omega) only [bindS, boolKT, boolKF, natK0, natK1, natK2, natK3, natKS, chkKT, bin_add, bin_sub, bin_mul, bin_eql, bin_neq, bin_lss, bin_leq, bin_gtr, bin_geq, un_not, un_neg, conv_int, min_op, max_op, extract_nth, load_one, load_agg, agg_some, field_ptr, len_slice, len_str, len_arr, nil_check, nil_check_f, callTo_func, pick_true, pick_false, cells_agg, cells_int, cells_ptr, cells_slice, cells_bool, cells_str, push_box, getT_zero, getT_succ, List.getElem?_cons_zero, List.getElem?_cons_succ, List.cons_append, List.nil_append, Bool.not_true, Bool.not_false, ne_eq, not_true_eq_false, decide_false, decide_true, not_false_eq_true, Nat.add_zero, Nat.zero_add, new_box, fill_box1, fill_box1s, fill_box1p, fill_box1b, ↓reduceIte, List.all_cons, List.all_nil, Bool.and_true, Bool.and_self, one_int, one_ptr, one_slice, one_bool, one_str, one_nil, one_iface, List.length_cons, List.length_nil, boolK_pos, boolK_neg, boolK_npos, boolK_nneg, wrap_i64, wrap_u64, wrap_u8, wrap_u32, pick_pos, pick_neg, bin_quo_nn, bin_rem_nn, bin_shr1, hone, cells_at r0 (o := 0) (n := 2) (by simp), List.drop_zero, List.take_succ_cons, List.take_zero, c1]


theorem sum_snoc (g : Win → Int) (ws : List Win) (i : Nat) (h : i < ws.length) : sumI ((ws.take (i + 1)).map g) = sumI ((ws.take i).map g) + g ws[i] := by
  rw [List.take_succ_eq_append_getElem h, List.map_append, sumI_append]; simp [sumI]
theorem gives_bd (part place : Int) (w : Win) (h : w.ticks ≤ 256) : 0 ≤ gives part place w ∧ gives part place w ≤ 256 := by
  unfold gives; split <;> omega
theorem sum_bd (part place : Int) (ws : List Win) (h : ∀ w ∈ ws, w.ticks ≤ 256) : ∀ i, i ≤ ws.length → 0 ≤ sumI ((ws.take i).map (gives part place)) ∧ sumI ((ws.take i).map (gives part place)) ≤ 256 * i
  | 0, _ => by simp [sumI]
  | i + 1, hi => by
    have h1 := sum_bd part place ws h i (by omega)
    have h2 := gives_bd part place ws[i] (h _ (List.getElem_mem (by omega)))
    rw [sum_snoc _ _ _ (by omega)]
    omega

theorem s35 {m : Nat} (hm : 1 ≤ m) {H : AHeap} {sl : Value} {ws who which} (h : TabOk H sl ws who which) {part : Int} (hp : 0 ≤ part) (place : Nat) (hpl : place ≤ 256) :
    ∃ H', ttD m 35 [tabV who.length sl, .int .i64 part, .int .i64 place] H = some (.int .i64 (cnt part who place), H') ∧ Ext H H' := by
  obtain ⟨m, rfl⟩ : ∃ k, m = k + 1 := ⟨m - 1, by omega⟩
  have hone := one_sl h.sl
  have hl := h.few
  have hle := h.le
  have hx0 := ext_box H [.int .i64 who.length, sl]
  have r0 : Row (box H [.int .i64 who.length, sl]) H.next [.int .i64 who.length, sl] := (has_box _ _).row
  have hbd := sum_bd part place ws (fun w hw => by have := h.lay.fits.le w hw; omega)
  obtain ⟨j, vs', H', e, rfl, hx, hv⟩ := iter_inv (b := tt35l3b (ttD m)) (I := fun d vs H' => Ext (box H [.int .i64 who.length, sl]) H' ∧ ∃ i : Nat, d = ws.length - i ∧ i ≤ ws.length ∧
      vs = [.int .i64 part, .int .i64 place, .int .i64 (sumI ((ws.take i).map (gives part place))), sl, .int .i64 ws.length, .int .i64 (i : Int)])
    (Q := fun k vs H' => k = 0 ∧ Ext (box H [.int .i64 who.length, sl]) H' ∧ getT vs 2 = .int .i64 (cnt part who place)) (by
    rintro d vs H' ⟨hx, i, rfl, hi, rfl⟩
    have hs' := (h.sl.ext hx0).ext hx
    by_cases hlt : i < ws.length
    · left
      have hw := List.getElem?_eq_getElem hlt
      have hwl := h.lay.fits.le _ (List.getElem_mem hlt)
      have hsn := sum_snoc (gives part place) ws i hlt
      have hb1 := hbd i hi
      have hb2 := hbd (i + 1) hlt
      obtain ⟨b, o, c, e1, _, _, _, e2, e3⟩ := hs'.at wcells_len (i := (i : Int)) (by omega) (x := ws[i]) hw .i64
      have hb := has_boxed H' [.int .i64 0, .int .i64 0, .int .i64 0] (wcells ws[i])
      have hxb := ext_boxed H' [.int .i64 0, .int .i64 0, .int .i64 0] (wcells ws[i])
      refine ⟨ws.length - (i + 1), _, _, ?_, by omega, hx.trans hxb, i + 1, rfl, by omega, rfl⟩
      have hfb := fill_box H' [.int .i64 0, .int .i64 0, .int .i64 0] (wcells ws[i]) 3 rfl
      rw [hsn] at hb2 ⊢
      unfold tt35l3b tt35l3
      by_cases hpp : ws[i].part = part
      · simp only [gives, if_pos hpp] at hb2 ⊢
        simp only [wcells] at hb e2 hfb ⊢
        simp (disch := omega) only [bindS, boolKT, boolKF, natK0, natK1, natK2, natK3, natKS, chkKT, bin_add, bin_sub, bin_mul, bin_eql, bin_neq, bin_lss, bin_leq, bin_gtr, bin_geq, un_not, un_neg, conv_int, min_op, max_op, extract_nth, load_one, load_agg, agg_some, field_ptr, len_slice, len_str, len_arr, nil_check, nil_check_f, callTo_func, pick_true, pick_false, cells_agg, cells_int, cells_ptr, cells_slice, cells_bool, cells_str, push_box, getT_zero, getT_succ, List.getElem?_cons_zero, List.getElem?_cons_succ, List.cons_append, List.nil_append, Bool.not_true, Bool.not_false, ne_eq, not_true_eq_false, decide_false, decide_true, not_false_eq_true, Nat.add_zero, Nat.zero_add, new_box, fill_box1, fill_box1s, fill_box1p, fill_box1b, ↓reduceIte, List.all_cons, List.all_nil, Bool.and_true, Bool.and_self, one_int, one_ptr, one_slice, one_bool, one_str, one_nil, one_iface, List.length_cons, List.length_nil, boolK_pos, boolK_neg, boolK_npos, boolK_nneg, wrap_i64, wrap_u64, wrap_u8, wrap_u32, pick_pos, pick_neg, bin_quo_nn, bin_rem_nn, bin_shr1, e1, e2, hfb, cell_at hb.row]
        simp
      · simp only [gives, if_neg hpp] at hb2 ⊢
        simp only [wcells] at hb e2 hfb ⊢
        simp (disch := omega) only [bindS, boolKT, boolKF, natK0, natK1, natK2, natK3, natKS, chkKT, bin_add, bin_sub, bin_mul, bin_eql, bin_neq, bin_lss, bin_leq, bin_gtr, bin_geq, un_not, un_neg, conv_int, min_op, max_op, extract_nth, load_one, load_agg, agg_some, field_ptr, len_slice, len_str, len_arr, nil_check, nil_check_f, callTo_func, pick_true, pick_false, cells_agg, cells_int, cells_ptr, cells_slice, cells_bool, cells_str, push_box, getT_zero, getT_succ, List.getElem?_cons_zero, List.getElem?_cons_succ, List.cons_append, List.nil_append, Bool.not_true, Bool.not_false, ne_eq, not_true_eq_false, decide_false, decide_true, not_false_eq_true, Nat.add_zero, Nat.zero_add, new_box, fill_box1, fill_box1s, fill_box1p, fill_box1b, ↓reduceIte, List.all_cons, List.all_nil, Bool.and_true, Bool.and_self, one_int, one_ptr, one_slice, one_bool, one_str, one_nil, one_iface, List.length_cons, List.length_nil, boolK_pos, boolK_neg, boolK_npos, boolK_nneg, wrap_i64, wrap_u64, wrap_u8, wrap_u32, pick_pos, pick_neg, bin_quo_nn, bin_rem_nn, bin_shr1, e1, e2, hfb, cell_at hb.row]
        simp
    · right
      obtain rfl : i = ws.length := by omega
      refine ⟨0, _, _, by unfold tt35l3b tt35l3; simp (disch := omega) only [bindS, boolKT, boolKF, natK0, natK1, natK2, natK3, natKS, chkKT, bin_add, bin_sub, bin_mul, bin_eql, bin_neq, bin_lss, bin_leq, bin_gtr, bin_geq, un_not, un_neg, conv_int, min_op, max_op, extract_nth, load_one, load_agg, agg_some, field_ptr, len_slice, len_str, len_arr, nil_check, nil_check_f, callTo_func, pick_true, pick_false, cells_agg, cells_int, cells_ptr, cells_slice, cells_bool, cells_str, push_box, getT_zero, getT_succ, List.getElem?_cons_zero, List.getElem?_cons_succ, List.cons_append, List.nil_append, Bool.not_true, Bool.not_false, ne_eq, not_true_eq_false, decide_false, decide_true, not_false_eq_true, Nat.add_zero, Nat.zero_add, new_box, fill_box1, fill_box1s, fill_box1p, fill_box1b, ↓reduceIte, List.all_cons, List.all_nil, Bool.and_true, Bool.and_self, one_int, one_ptr, one_slice, one_bool, one_str, one_nil, one_iface, List.length_cons, List.length_nil, boolK_pos, boolK_neg, boolK_npos, boolK_nneg, wrap_i64, wrap_u64, wrap_u8, wrap_u32, pick_pos, pick_neg, bin_quo_nn, bin_rem_nn, bin_shr1]; rfl, rfl, hx, ?_⟩
      rw [List.take_length, h.lay.under part hp place]; rfl)
    ws.length rounds _ (box H [.int .i64 who.length, sl]) ⟨Mod.refl, 0, by omega, by omega, rfl⟩ (lt_rounds (by omega))
  refine ⟨H', ttD35 ?_, hx0.trans hx⟩
  unfold tt35
  simp (disch := omega) only [bindS, boolKT, boolKF, natK0, natK1, natK2, natK3, natKS, chkKT, bin_add, bin_sub, bin_mul, bin_eql, bin_neq, bin_lss, bin_leq, bin_gtr, bin_geq, un_not, un_neg, conv_int, min_op, max_op, extract_nth, load_one, load_agg, agg_some, field_ptr, len_slice, len_str, len_arr, nil_check, nil_check_f, callTo_func, pick_true, pick_false, cells_agg, cells_int, cells_ptr, cells_slice, cells_bool, cells_str, push_box, getT_zero, getT_succ, List.getElem?_cons_zero, List.getElem?_cons_succ, List.cons_append, List.nil_append, Bool.not_true, Bool.not_false, ne_eq, not_true_eq_false, decide_false, decide_true, not_false_eq_true, Nat.add_zero, Nat.zero_add, new_box, fill_box1, fill_box1s, fill_box1p, fill_box1b, ↓reduceIte, List.all_cons, List.all_nil, Bool.and_true, Bool.and_self, one_int, one_ptr, one_slice, one_bool, one_str, one_nil, one_iface, List.length_cons, List.length_nil, boolK_pos, boolK_neg, boolK_npos, boolK_nneg, wrap_i64, wrap_u64, wrap_u8, wrap_u32, pick_pos, pick_neg, bin_quo_nn, bin_rem_nn, bin_shr1, hone, cell_at r0, h.sl.len]
  rw [show iterL (tt35l3b (ttD m)) rounds [.int .i64 part, .int .i64 place, .int .i64 0, sl, .int .i64 ws.length, .int .i64 0] (box H [.int .i64 who.length, sl]) = some (0, vs', H') from e]
  simp only [Option.bind_some, natK_zero, hv]

theorem s12 {m : Nat} (hm : 2 ≤ m) {H : AHeap} {sl : Value} {ws who which} (h : TabOk H sl ws who which) {part : Int} (hp : 0 ≤ part) :
    ∃ H', ttD m 12 [tabV who.length sl, .int .i64 part] H = some (.int .i64 (cnt part who who.length), H') ∧ Ext H H' := by
  obtain ⟨m, rfl⟩ : ∃ k, m = k + 1 := ⟨m - 1, by omega⟩
  have hone := one_sl h.sl
  have hx0 := ext_box H [.int .i64 who.length, sl]
  have r0 : Row (box H [.int .i64 who.length, sl]) H.next [.int .i64 who.length, sl] := (has_box _ _).row
  obtain ⟨H1, c1, x1⟩ := check_ok (m := m) (by omega) (h.ext hx0)
  have r1 := r0.ext x1
  obtain ⟨H2, c2, x2⟩ := s35 (m := m) (by omega) ((h.ext hx0).ext x1) hp who.length h.le
  refine ⟨H2, ttD12 ?_, (hx0.trans x1).trans x2⟩
  unfold tt12
  simp (disch := omega) only [bindS, boolKT, boolKF, natK0, natK1, natK2, natK3, natKS, chkKT, bin_add, bin_sub, bin_mul, bin_eql, bin_neq, bin_lss, bin_leq, bin_gtr, bin_geq, un_not, un_neg, conv_int, min_op, max_op, extract_nth, load_one, load_agg, agg_some, field_ptr, len_slice, len_str, len_arr, nil_check, nil_check_f, callTo_func, pick_true, pick_false, cells_agg, cells_int, cells_ptr, cells_slice, cells_bool, cells_str, push_box, getT_zero, getT_succ, List.getElem?_cons_zero, List.getElem?_cons_succ, List.cons_append, List.nil_append, Bool.not_true, Bool.not_false, ne_eq, not_true_eq_false, decide_false, decide_true, not_false_eq_true, Nat.add_zero, Nat.zero_add, new_box, fill_box1, fill_box1s, fill_box1p, fill_box1b, ↓reduceIte, List.all_cons, List.all_nil, Bool.and_true, Bool.and_self, one_int, one_ptr, one_slice, one_bool, one_str, one_nil, one_iface, List.length_cons, List.length_nil, boolK_pos, boolK_neg, boolK_npos, boolK_nneg, wrap_i64, wrap_u64, wrap_u8, wrap_u32, pick_pos, pick_neg, bin_quo_nn, bin_rem_nn, bin_shr1, hone, cells_at r0 (o := 0) (n := 2) (by simp), List.drop_zero, List.take_succ_cons, List.take_zero, c1, nil_ne_nil _ _ dk35, cell_at r1, cells_at r1 (o := 0) (n := 2) (by simp), c2]

theorem same_tab {T : Nat} {sl : Value} {H : AHeap} {ws : List Win} (h : Sl H sl 3 wcells ws) : sameOpt (tabV T sl) (some (tabV T sl)) = true := by
  rcases h with ⟨_, h⟩ | ⟨b, o, c, h, _⟩ <;> subst h <;> simp [sameOpt, sameVal, sameCells, sameScalar, sameKind_self, eqI_eq, tabV] <;> rfl

theorem s10 {m : Nat} (hm : 2 ≤ m) {H : AHeap} {sl : Value} {ws who which} (h : TabOk H sl ws who which) {part : Int} (hp : 0 ≤ part) {t : Nat} (ht : t ≤ 18446744073709551615) :
    ∃ H', ttD m 10 [tabV who.length sl, .int .i64 part, .int .u64 t] H = some (.int .u64 (turnsL who part t who.length), H') ∧ Ext H H' := by
  obtain ⟨m, rfl⟩ : ∃ k, m = k + 1 := ⟨m - 1, by omega⟩
  have hone := one_sl h.sl
  have hx0 := ext_box H [.int .i64 who.length, sl]
  have r0 : Row (box H [.int .i64 who.length, sl]) H.next [.int .i64 who.length, sl] := (has_box _ _).row
  obtain ⟨H1, c1, x1⟩ := check_ok (m := m) (by omega) (h.ext hx0)
  have r1 := r0.ext x1
  have hpos := h.pos
  have hle := h.le
  have hm1 := Nat.mod_lt t (show 0 < who.length by omega)
  obtain ⟨H2, c2, x2⟩ := s35 (m := m) (by omega) ((h.ext hx0).ext x1) hp who.length h.le
  have r2 := r1.ext x2
  obtain ⟨H3, c3, x3⟩ := s35 (m := m) (by omega) (((h.ext hx0).ext x1).ext x2) hp (t % who.length) (by omega)
  have e1 : (t : Int) / (who.length : Int) = ((t / who.length : Nat) : Int) := rfl
  have e2 : (t : Int) % (who.length : Int) = ((t % who.length : Nat) : Int) := rfl
  have hsum := turnsL_all who part t (by omega)
  have hbd := turnsL_le who part t who.length (Nat.le_refl _) (by omega)
  have hq : t / who.length ≤ t := Nat.div_le_self _ _
  have hc1 := cnt_le part who who.length
  have hc2 := cnt_le part who (t % who.length)
  have hmul : ((t / who.length : Nat) : Int) * (cnt part who who.length : Int) = ((t / who.length * cnt part who who.length : Nat) : Int) := rfl
  refine ⟨H3, ttD10 ?_, ((hx0.trans x1).trans x2).trans x3⟩
  rw [hsum] at hbd ⊢
  generalize t / who.length = q at *
  generalize t % who.length = r at *
  have hsame := same_tab (T := who.length) h.sl
  unfold tt10
  simp (disch := omega) only [bindS, boolKT, boolKF, natK0, natK1, natK2, natK3, natKS, chkKT, bin_add, bin_sub, bin_mul, bin_eql, bin_neq, bin_lss, bin_leq, bin_gtr, bin_geq, un_not, un_neg, conv_int, min_op, max_op, extract_nth, load_one, load_agg, agg_some, field_ptr, len_slice, len_str, len_arr, nil_check, nil_check_f, callTo_func, pick_true, pick_false, cells_agg, cells_int, cells_ptr, cells_slice, cells_bool, cells_str, push_box, getT_zero, getT_succ, List.getElem?_cons_zero, List.getElem?_cons_succ, List.cons_append, List.nil_append, Bool.not_true, Bool.not_false, ne_eq, not_true_eq_false, decide_false, decide_true, not_false_eq_true, Nat.add_zero, Nat.zero_add, new_box, fill_box1, fill_box1s, fill_box1p, fill_box1b, ↓reduceIte, List.all_cons, List.all_nil, Bool.and_true, Bool.and_self, one_int, one_ptr, one_slice, one_bool, one_str, one_nil, one_iface, List.length_cons, List.length_nil, boolK_pos, boolK_neg, boolK_npos, boolK_nneg, wrap_i64, wrap_u64, wrap_u8, wrap_u32, pick_pos, pick_neg, bin_quo_nn, bin_rem_nn, bin_shr1, hone, cells_at r0 (o := 0) (n := 2) (by simp), List.drop_zero, List.take_succ_cons, List.take_zero, c1, nil_ne_nil _ _ dk35, cell_at r1, cells_at r1 (o := 0) (n := 2) (by simp), cells_at r2 (o := 0) (n := 2) (by simp), e1, e2, c2, c3, hsame, hmul]
  try rfl

def icell (x : Int) : List Value := [.int .i64 x]
theorem icell_len (x : Int) : (icell x).length = 1 := rfl

theorem turnsL_succ (who : List Int) (part : Int) (n i : Nat) : turnsL who part n (i + 1) = turnsL who part n i + if who[i]? = some part then n / who.length + (if i < n % who.length then 1 else 0) else 0 := rfl

theorem s11 {m : Nat} (hm : 1 ≤ m) {H : AHeap} {sw : Value} {who : List Int} (hs : Sl H sw 1 icell who) (hpos : 1 ≤ who.length) (hle : who.length ≤ 256) {part : Int} {t : Nat} (ht : t ≤ 18446744073709551615) :
    ttD m 11 [sw, .int .i64 part, .int .u64 t] H = some (.int .u64 (turnsL who part t who.length), H) := by
  obtain ⟨m, rfl⟩ : ∃ k, m = k + 1 := ⟨m - 1, by omega⟩
  have e1 : (t : Int) / (who.length : Int) = ((t / who.length : Nat) : Int) := rfl
  have e2 : (t : Int) % (who.length : Int) = ((t % who.length : Nat) : Int) := rfl
  have hm1 := Nat.mod_lt t (show 0 < who.length by omega)
  have hsuccs := turnsL_succ who part t
  have hbds : ∀ i, i ≤ who.length → turnsL who part t i ≤ t := fun i hi => turnsL_le who part t i hi (by omega)
  have hq : t / who.length ≤ t := Nat.div_le_self _ _
  refine ttD11 ?_
  unfold tt11
  generalize t / who.length = q at *
  generalize t % who.length = r at *
  simp (disch := omega) only [bindS, boolKT, boolKF, natK0, natK1, natK2, natK3, natKS, chkKT, bin_add, bin_sub, bin_mul, bin_eql, bin_neq, bin_lss, bin_leq, bin_gtr, bin_geq, un_not, un_neg, conv_int, min_op, max_op, extract_nth, load_one, load_agg, agg_some, field_ptr, len_slice, len_str, len_arr, nil_check, nil_check_f, callTo_func, pick_true, pick_false, cells_agg, cells_int, cells_ptr, cells_slice, cells_bool, cells_str, push_box, getT_zero, getT_succ, List.getElem?_cons_zero, List.getElem?_cons_succ, List.cons_append, List.nil_append, Bool.not_true, Bool.not_false, ne_eq, not_true_eq_false, decide_false, decide_true, not_false_eq_true, Nat.add_zero, Nat.zero_add, new_box, fill_box1, fill_box1s, fill_box1p, fill_box1b, ↓reduceIte, List.all_cons, List.all_nil, Bool.and_true, Bool.and_self, one_int, one_ptr, one_slice, one_bool, one_str, one_nil, one_iface, List.length_cons, List.length_nil, boolK_pos, boolK_neg, boolK_npos, boolK_nneg, wrap_i64, wrap_u64, wrap_u8, wrap_u32, pick_pos, pick_neg, bin_quo_nn, bin_rem_nn, bin_shr1, hs.len]
  have key := iter_for (b := tt11l3b (ttD m)) who.length (fun i => [sw, .int .i64 part, .int .u64 t, .int .u64 (turnsL who part t i), .int .i64 who.length, .int .i64 (i : Int)]) (fun _ => H) (j := 0)
    (vs' := [sw, .int .i64 part, .int .u64 t, .int .u64 (turnsL who part t who.length), .int .i64 who.length, .int .i64 (who.length : Int)]) (H' := H) (fun i hi => by
      have hw := List.getElem?_eq_getElem hi
      obtain ⟨b, o, c, g1, _, _, _, g2, g3⟩ := hs.at icell_len (i := (i : Int)) (by omega) (x := who[i]) hw .i64
      have g30 := g3 0 (by omega)
      simp only [Nat.add_zero, icell] at g30
      have hb := hbds (i + 1) hi
      have hsucc := hsuccs i
      unfold tt11l3b tt11l3
      by_cases hpp : who[i] = part
      · rw [if_pos (by rw [hw, hpp])] at hsucc
        by_cases hlt : i < r
        · rw [if_pos hlt] at hsucc
          simp (disch := omega) only [bindS, boolKT, boolKF, natK0, natK1, natK2, natK3, natKS, chkKT, bin_add, bin_sub, bin_mul, bin_eql, bin_neq, bin_lss, bin_leq, bin_gtr, bin_geq, un_not, un_neg, conv_int, min_op, max_op, extract_nth, load_one, load_agg, agg_some, field_ptr, len_slice, len_str, len_arr, nil_check, nil_check_f, callTo_func, pick_true, pick_false, cells_agg, cells_int, cells_ptr, cells_slice, cells_bool, cells_str, push_box, getT_zero, getT_succ, List.getElem?_cons_zero, List.getElem?_cons_succ, List.cons_append, List.nil_append, Bool.not_true, Bool.not_false, ne_eq, not_true_eq_false, decide_false, decide_true, not_false_eq_true, Nat.add_zero, Nat.zero_add, new_box, fill_box1, fill_box1s, fill_box1p, fill_box1b, ↓reduceIte, List.all_cons, List.all_nil, Bool.and_true, Bool.and_self, one_int, one_ptr, one_slice, one_bool, one_str, one_nil, one_iface, List.length_cons, List.length_nil, boolK_pos, boolK_neg, boolK_npos, boolK_nneg, wrap_i64, wrap_u64, wrap_u8, wrap_u32, pick_pos, pick_neg, bin_quo_nn, bin_rem_nn, bin_shr1, g1, g30, hs.len, e1, e2]
          rw [show ((turnsL who part t i : Int) + (q : Int) + 1) = (turnsL who part t (i + 1) : Int) by omega]
          rfl
        · rw [if_neg hlt] at hsucc
          simp (disch := omega) only [bindS, boolKT, boolKF, natK0, natK1, natK2, natK3, natKS, chkKT, bin_add, bin_sub, bin_mul, bin_eql, bin_neq, bin_lss, bin_leq, bin_gtr, bin_geq, un_not, un_neg, conv_int, min_op, max_op, extract_nth, load_one, load_agg, agg_some, field_ptr, len_slice, len_str, len_arr, nil_check, nil_check_f, callTo_func, pick_true, pick_false, cells_agg, cells_int, cells_ptr, cells_slice, cells_bool, cells_str, push_box, getT_zero, getT_succ, List.getElem?_cons_zero, List.getElem?_cons_succ, List.cons_append, List.nil_append, Bool.not_true, Bool.not_false, ne_eq, not_true_eq_false, decide_false, decide_true, not_false_eq_true, Nat.add_zero, Nat.zero_add, new_box, fill_box1, fill_box1s, fill_box1p, fill_box1b, ↓reduceIte, List.all_cons, List.all_nil, Bool.and_true, Bool.and_self, one_int, one_ptr, one_slice, one_bool, one_str, one_nil, one_iface, List.length_cons, List.length_nil, boolK_pos, boolK_neg, boolK_npos, boolK_nneg, wrap_i64, wrap_u64, wrap_u8, wrap_u32, pick_pos, pick_neg, bin_quo_nn, bin_rem_nn, bin_shr1, g1, g30, hs.len, e1, e2]
          rw [show ((turnsL who part t i : Int) + (q : Int)) = (turnsL who part t (i + 1) : Int) by omega]
          rfl
      · rw [if_neg (by rw [hw]; intro h; exact hpp (Option.some.inj h))] at hsucc
        simp (disch := omega) only [bindS, boolKT, boolKF, natK0, natK1, natK2, natK3, natKS, chkKT, bin_add, bin_sub, bin_mul, bin_eql, bin_neq, bin_lss, bin_leq, bin_gtr, bin_geq, un_not, un_neg, conv_int, min_op, max_op, extract_nth, load_one, load_agg, agg_some, field_ptr, len_slice, len_str, len_arr, nil_check, nil_check_f, callTo_func, pick_true, pick_false, cells_agg, cells_int, cells_ptr, cells_slice, cells_bool, cells_str, push_box, getT_zero, getT_succ, List.getElem?_cons_zero, List.getElem?_cons_succ, List.cons_append, List.nil_append, Bool.not_true, Bool.not_false, ne_eq, not_true_eq_false, decide_false, decide_true, not_false_eq_true, Nat.add_zero, Nat.zero_add, new_box, fill_box1, fill_box1s, fill_box1p, fill_box1b, ↓reduceIte, List.all_cons, List.all_nil, Bool.and_true, Bool.and_self, one_int, one_ptr, one_slice, one_bool, one_str, one_nil, one_iface, List.length_cons, List.length_nil, boolK_pos, boolK_neg, boolK_npos, boolK_nneg, wrap_i64, wrap_u64, wrap_u8, wrap_u32, pick_pos, pick_neg, bin_quo_nn, bin_rem_nn, bin_shr1, g1, g30, hs.len, e1, e2]
        rw [hsucc]; rfl)
    (by unfold tt11l3b tt11l3; simp (disch := omega) only [bindS, boolKT, boolKF, natK0, natK1, natK2, natK3, natKS, chkKT, bin_add, bin_sub, bin_mul, bin_eql, bin_neq, bin_lss, bin_leq, bin_gtr, bin_geq, un_not, un_neg, conv_int, min_op, max_op, extract_nth, load_one, load_agg, agg_some, field_ptr, len_slice, len_str, len_arr, nil_check, nil_check_f, callTo_func, pick_true, pick_false, cells_agg, cells_int, cells_ptr, cells_slice, cells_bool, cells_str, push_box, getT_zero, getT_succ, List.getElem?_cons_zero, List.getElem?_cons_succ, List.cons_append, List.nil_append, Bool.not_true, Bool.not_false, ne_eq, not_true_eq_false, decide_false, decide_true, not_false_eq_true, Nat.add_zero, Nat.zero_add, new_box, fill_box1, fill_box1s, fill_box1p, fill_box1b, ↓reduceIte, List.all_cons, List.all_nil, Bool.and_true, Bool.and_self, one_int, one_ptr, one_slice, one_bool, one_str, one_nil, one_iface, List.length_cons, List.length_nil, boolK_pos, boolK_neg, boolK_npos, boolK_nneg, wrap_i64, wrap_u64, wrap_u8, wrap_u32, pick_pos, pick_neg, bin_quo_nn, bin_rem_nn, bin_shr1]) rounds (lt_rounds (by omega))
  rw [show iterL (tt11l3b (ttD m)) rounds [sw, .int .i64 part, .int .u64 t, .int .u64 0, .int .i64 who.length, .int .i64 0] H = _ from key]
  simp only [bindS, boolKT, boolKF, natK0, natK1, natK2, natK3, natKS, chkKT, bin_add, bin_sub, bin_mul, bin_eql, bin_neq, bin_lss, bin_leq, bin_gtr, bin_geq, un_not, un_neg, conv_int, min_op, max_op, extract_nth, load_one, load_agg, agg_some, field_ptr, len_slice, len_str, len_arr, nil_check, nil_check_f, callTo_func, pick_true, pick_false, cells_agg, cells_int, cells_ptr, cells_slice, cells_bool, cells_str, push_box, getT_zero, getT_succ, List.getElem?_cons_zero, List.getElem?_cons_succ, List.cons_append, List.nil_append, Bool.not_true, Bool.not_false, ne_eq, not_true_eq_false, decide_false, decide_true, not_false_eq_true, Nat.add_zero, Nat.zero_add, new_box, fill_box1, fill_box1s, fill_box1p, fill_box1b, ↓reduceIte, List.all_cons, List.all_nil, Bool.and_true, Bool.and_self, one_int, one_ptr, one_slice, one_bool, one_str, one_nil, one_iface, List.length_cons, List.length_nil, boolK_pos, boolK_neg, boolK_npos, boolK_nneg, wrap_i64, wrap_u64, wrap_u8, wrap_u32, pick_pos, pick_neg, bin_quo_nn, bin_rem_nn, bin_shr1]


/-- A partition's next turn, tick by tick. -/
def nextF (who : List Int) (part : Int) (t : Nat) : Nat → Nat → Option Nat
  | 0, _ => none
  | d + 1, k => if t + k ≤ 18446744073709551615 ∧ who[(t + k) % who.length]? = some part then some (t + k) else nextF who part t d (k + 1)

theorem nextF_over (who : List Int) (part : Int) (t : Nat) : ∀ d k, 18446744073709551615 < t + k → nextF who part t d k = none
  | 0, _, _ => rfl
  | d + 1, k, h => by rw [nextF, if_neg (by omega)]; exact nextF_over who part t d (k + 1) (by omega)
theorem nextF_bd (who : List Int) (part : Int) (t : Nat) : ∀ d k x, nextF who part t d k = some x → x ≤ 18446744073709551615 ∧ t + k ≤ x
  | d + 1, k, x, h => by
    rw [nextF] at h
    split at h
    · rename_i h1
      have := Option.some.inj h
      omega
    · have := nextF_bd who part t d (k + 1) x h; omega

def nextV (o : Option Nat) : Value := .tuple [.int .u64 (o.getD 0 : Nat), .bool o.isSome].toArray

theorem s9 {m : Nat} (hm : 4 ≤ m) {H : AHeap} {sl : Value} {ws who which} (h : TabOk H sl ws who which) {part : Int} (hp : 0 ≤ part) {t : Nat} (ht : t ≤ 18446744073709551615) :
    ∃ H', ttD m 9 [tabV who.length sl, .int .i64 part, .int .u64 t] H = some (nextV (nextF who part t who.length 1), H') ∧ Ext H H' := by
  obtain ⟨m, rfl⟩ : ∃ k, m = k + 1 := ⟨m - 1, by omega⟩
  have hone := one_sl h.sl
  have hx0 := ext_box H [.int .i64 who.length, sl]
  have r0 : Row (box H [.int .i64 who.length, sl]) H.next [.int .i64 who.length, sl] := (has_box _ _).row
  obtain ⟨H1, c1, x1⟩ := check_ok (m := m) (by omega) (h.ext hx0)
  have r1 := r0.ext x1
  have hpos := h.pos
  have hle := h.le
  obtain ⟨j, vs', H', e, hx, hq⟩ := iter_inv (b := tt9l4b (ttD m)) (I := fun d vs H' => Ext H1 H' ∧ ∃ k : Nat, d = who.length + 1 - k ∧ 1 ≤ k ∧ k ≤ who.length + 1 ∧ nextF who part t who.length 1 = nextF who part t (who.length + 1 - k) k ∧
      vs = [.int .i64 part, .int .u64 t, .pointer (some ⟨H.next, 0, none⟩), .int .u64 0, .bool false, .int .u64 (k : Int)])
    (Q := fun j vs H' => Ext H1 H' ∧ ((j = 0 ∧ nextF who part t who.length 1 = none) ∨ (j = 1 ∧ ∃ x : Nat, nextF who part t who.length 1 = some x ∧ getT vs 3 = .int .u64 x ∧ getT vs 4 = .bool true))) (by
    rintro d vs H' ⟨hx, k, rfl, hk0, hk, hn, rfl⟩
    have r2 := r1.ext hx
    have hT' := ((h.ext hx0).ext x1).ext hx
    unfold tt9l4b tt9l4 tt9j25
    by_cases hlt : k ≤ who.length
    · rw [show who.length + 1 - k = (who.length - k) + 1 by omega, nextF] at hn
      by_cases hov : t + k ≤ 18446744073709551615
      · have hm1 := Nat.mod_lt (t + k) (show 0 < who.length by omega)
        have e2 : ((t : Int) + k) % (who.length : Int) = (((t + k) % who.length : Nat) : Int) := rfl
        obtain ⟨r, H2, hr, c2, x2⟩ := s34 (m := m) (by omega) hT'.sl h.lay (Nat.le_refl _) h.le h.few hm1
        have r3 := r2.ext x2
        have hT2 := hT'.ext x2
        have hwho := h.lay.who hm1
        generalize (t + k) % who.length = p at *
        rcases hwho with ⟨i, w, g1, g2, g3⟩ | ⟨g1, g2⟩
        · rw [g1] at hr; obtain rfl := Option.some.inj hr
          obtain ⟨b, o, c, e1, _, _, _, _, e3⟩ := hT2.sl.at wcells_len (i := (i : Int)) (by omega) (x := w) g2 .i64
          have e30 := e3 0 (by omega)
          simp only [Nat.add_zero, wcells, List.getElem?_cons_zero] at e30
          by_cases hpp : w.part = part
          · right
            rw [if_pos ⟨hov, by rw [g3, hpp]⟩] at hn
            refine ⟨1, [.int .i64 part, .int .u64 t, .pointer (some ⟨H.next, 0, none⟩), .int .u64 ((t + k : Nat) : Int), .bool true, .int .u64 (k : Int)], H2, ?_, hx.trans x2, .inr ⟨rfl, t + k, hn, rfl, rfl⟩⟩
            simp (disch := omega) only [bindS, boolKT, boolKF, natK0, natK1, natK2, natK3, natKS, chkKT, bin_add, bin_sub, bin_mul, bin_eql, bin_neq, bin_lss, bin_leq, bin_gtr, bin_geq, un_not, un_neg, conv_int, min_op, max_op, extract_nth, load_one, load_agg, agg_some, field_ptr, len_slice, len_str, len_arr, nil_check, nil_check_f, callTo_func, pick_true, pick_false, cells_agg, cells_int, cells_ptr, cells_slice, cells_bool, cells_str, push_box, getT_zero, getT_succ, List.getElem?_cons_zero, List.getElem?_cons_succ, List.cons_append, List.nil_append, Bool.not_true, Bool.not_false, ne_eq, not_true_eq_false, decide_false, decide_true, not_false_eq_true, Nat.add_zero, Nat.zero_add, new_box, fill_box1, fill_box1s, fill_box1p, fill_box1b, ↓reduceIte, List.all_cons, List.all_nil, Bool.and_true, Bool.and_self, one_int, one_ptr, one_slice, one_bool, one_str, one_nil, one_iface, List.length_cons, List.length_nil, boolK_pos, boolK_neg, boolK_npos, boolK_nneg, wrap_i64, wrap_u64, wrap_u8, wrap_u32, pick_pos, pick_neg, bin_quo_nn, bin_rem_nn, bin_shr1, cell_at r2, cells_at r2 (o := 0) (n := 2) (by simp), List.drop_zero, List.take_succ_cons, List.take_zero, e2, c2, cell_at r3, e1, e30]
            try rfl
          · left
            rw [if_neg (by rw [g3]; intro h; exact hpp (Option.some.inj h.2))] at hn
            refine ⟨who.length + 1 - (k + 1), _, H2, ?_, by omega, hx.trans x2, k + 1, rfl, by omega, by omega, by rw [hn]; congr 1; omega, rfl⟩
            simp (disch := omega) only [bindS, boolKT, boolKF, natK0, natK1, natK2, natK3, natKS, chkKT, bin_add, bin_sub, bin_mul, bin_eql, bin_neq, bin_lss, bin_leq, bin_gtr, bin_geq, un_not, un_neg, conv_int, min_op, max_op, extract_nth, load_one, load_agg, agg_some, field_ptr, len_slice, len_str, len_arr, nil_check, nil_check_f, callTo_func, pick_true, pick_false, cells_agg, cells_int, cells_ptr, cells_slice, cells_bool, cells_str, push_box, getT_zero, getT_succ, List.getElem?_cons_zero, List.getElem?_cons_succ, List.cons_append, List.nil_append, Bool.not_true, Bool.not_false, ne_eq, not_true_eq_false, decide_false, decide_true, not_false_eq_true, Nat.add_zero, Nat.zero_add, new_box, fill_box1, fill_box1s, fill_box1p, fill_box1b, ↓reduceIte, List.all_cons, List.all_nil, Bool.and_true, Bool.and_self, one_int, one_ptr, one_slice, one_bool, one_str, one_nil, one_iface, List.length_cons, List.length_nil, boolK_pos, boolK_neg, boolK_npos, boolK_nneg, wrap_i64, wrap_u64, wrap_u8, wrap_u32, pick_pos, pick_neg, bin_quo_nn, bin_rem_nn, bin_shr1, cell_at r2, cells_at r2 (o := 0) (n := 2) (by simp), List.drop_zero, List.take_succ_cons, List.take_zero, e2, c2, cell_at r3, e1, e30]
            try rfl
        · rw [g1] at hr; obtain rfl := Option.some.inj hr
          left
          rw [if_neg (by rw [g2]; intro h; have := Option.some.inj h.2; omega)] at hn
          refine ⟨who.length + 1 - (k + 1), _, H2, ?_, by omega, hx.trans x2, k + 1, rfl, by omega, by omega, by rw [hn]; congr 1; omega, rfl⟩
          simp (disch := omega) only [bindS, boolKT, boolKF, natK0, natK1, natK2, natK3, natKS, chkKT, bin_add, bin_sub, bin_mul, bin_eql, bin_neq, bin_lss, bin_leq, bin_gtr, bin_geq, un_not, un_neg, conv_int, min_op, max_op, extract_nth, load_one, load_agg, agg_some, field_ptr, len_slice, len_str, len_arr, nil_check, nil_check_f, callTo_func, pick_true, pick_false, cells_agg, cells_int, cells_ptr, cells_slice, cells_bool, cells_str, push_box, getT_zero, getT_succ, List.getElem?_cons_zero, List.getElem?_cons_succ, List.cons_append, List.nil_append, Bool.not_true, Bool.not_false, ne_eq, not_true_eq_false, decide_false, decide_true, not_false_eq_true, Nat.add_zero, Nat.zero_add, new_box, fill_box1, fill_box1s, fill_box1p, fill_box1b, ↓reduceIte, List.all_cons, List.all_nil, Bool.and_true, Bool.and_self, one_int, one_ptr, one_slice, one_bool, one_str, one_nil, one_iface, List.length_cons, List.length_nil, boolK_pos, boolK_neg, boolK_npos, boolK_nneg, wrap_i64, wrap_u64, wrap_u8, wrap_u32, pick_pos, pick_neg, bin_quo_nn, bin_rem_nn, bin_shr1, cell_at r2, cells_at r2 (o := 0) (n := 2) (by simp), List.drop_zero, List.take_succ_cons, List.take_zero, e2, c2, cell_at r3]
          try rfl
      · right
        rw [if_neg (by omega), nextF_over who part t (who.length - k) (k + 1) (by omega)] at hn
        refine ⟨0, [.int .i64 part, .int .u64 t, .pointer (some ⟨H.next, 0, none⟩), .int .u64 0, .bool false, .int .u64 (k : Int)], H', ?_, hx, .inl ⟨rfl, hn⟩⟩
        have hwr : IntKind.u64.wrap ((t : Int) + k) = t + k - 18446744073709551616 := by rw [wrap_u64_mod]; omega
        simp (disch := omega) only [bindS, boolKT, boolKF, natK0, natK1, natK2, natK3, natKS, chkKT, bin_add, bin_sub, bin_mul, bin_eql, bin_neq, bin_lss, bin_leq, bin_gtr, bin_geq, un_not, un_neg, conv_int, min_op, max_op, extract_nth, load_one, load_agg, agg_some, field_ptr, len_slice, len_str, len_arr, nil_check, nil_check_f, callTo_func, pick_true, pick_false, cells_agg, cells_int, cells_ptr, cells_slice, cells_bool, cells_str, push_box, getT_zero, getT_succ, List.getElem?_cons_zero, List.getElem?_cons_succ, List.cons_append, List.nil_append, Bool.not_true, Bool.not_false, ne_eq, not_true_eq_false, decide_false, decide_true, not_false_eq_true, Nat.add_zero, Nat.zero_add, new_box, fill_box1, fill_box1s, fill_box1p, fill_box1b, ↓reduceIte, List.all_cons, List.all_nil, Bool.and_true, Bool.and_self, one_int, one_ptr, one_slice, one_bool, one_str, one_nil, one_iface, List.length_cons, List.length_nil, boolK_pos, boolK_neg, boolK_npos, boolK_nneg, wrap_i64, wrap_u64, wrap_u8, wrap_u32, pick_pos, pick_neg, bin_quo_nn, bin_rem_nn, bin_shr1, cell_at r2, hwr]
    · right
      obtain rfl : k = who.length + 1 := by omega
      refine ⟨0, [.int .i64 part, .int .u64 t, .pointer (some ⟨H.next, 0, none⟩), .int .u64 0, .bool false, .int .u64 ((who.length + 1 : Nat) : Int)], H', ?_, hx, .inl ⟨rfl, by rw [hn]; simp [nextF]⟩⟩
      simp (disch := omega) only [bindS, boolKT, boolKF, natK0, natK1, natK2, natK3, natKS, chkKT, bin_add, bin_sub, bin_mul, bin_eql, bin_neq, bin_lss, bin_leq, bin_gtr, bin_geq, un_not, un_neg, conv_int, min_op, max_op, extract_nth, load_one, load_agg, agg_some, field_ptr, len_slice, len_str, len_arr, nil_check, nil_check_f, callTo_func, pick_true, pick_false, cells_agg, cells_int, cells_ptr, cells_slice, cells_bool, cells_str, push_box, getT_zero, getT_succ, List.getElem?_cons_zero, List.getElem?_cons_succ, List.cons_append, List.nil_append, Bool.not_true, Bool.not_false, ne_eq, not_true_eq_false, decide_false, decide_true, not_false_eq_true, Nat.add_zero, Nat.zero_add, new_box, fill_box1, fill_box1s, fill_box1p, fill_box1b, ↓reduceIte, List.all_cons, List.all_nil, Bool.and_true, Bool.and_self, one_int, one_ptr, one_slice, one_bool, one_str, one_nil, one_iface, List.length_cons, List.length_nil, boolK_pos, boolK_neg, boolK_npos, boolK_nneg, wrap_i64, wrap_u64, wrap_u8, wrap_u32, pick_pos, pick_neg, bin_quo_nn, bin_rem_nn, bin_shr1, cell_at r2])
    who.length rounds _ H1 ⟨Mod.refl, 1, by omega, by omega, by omega, by congr 1, rfl⟩ (lt_rounds (by omega))
  refine ⟨H', ttD9 ?_, (hx0.trans x1).trans hx⟩
  unfold tt9
  simp (disch := omega) only [bindS, boolKT, boolKF, natK0, natK1, natK2, natK3, natKS, chkKT, bin_add, bin_sub, bin_mul, bin_eql, bin_neq, bin_lss, bin_leq, bin_gtr, bin_geq, un_not, un_neg, conv_int, min_op, max_op, extract_nth, load_one, load_agg, agg_some, field_ptr, len_slice, len_str, len_arr, nil_check, nil_check_f, callTo_func, pick_true, pick_false, cells_agg, cells_int, cells_ptr, cells_slice, cells_bool, cells_str, push_box, getT_zero, getT_succ, List.getElem?_cons_zero, List.getElem?_cons_succ, List.cons_append, List.nil_append, Bool.not_true, Bool.not_false, ne_eq, not_true_eq_false, decide_false, decide_true, not_false_eq_true, Nat.add_zero, Nat.zero_add, new_box, fill_box1, fill_box1s, fill_box1p, fill_box1b, ↓reduceIte, List.all_cons, List.all_nil, Bool.and_true, Bool.and_self, one_int, one_ptr, one_slice, one_bool, one_str, one_nil, one_iface, List.length_cons, List.length_nil, boolK_pos, boolK_neg, boolK_npos, boolK_nneg, wrap_i64, wrap_u64, wrap_u8, wrap_u32, pick_pos, pick_neg, bin_quo_nn, bin_rem_nn, bin_shr1, hone, cells_at r0 (o := 0) (n := 2) (by simp), List.drop_zero, List.take_succ_cons, List.take_zero, c1, nil_ne_nil _ _ dk35]
  rw [show iterL (tt9l4b (ttD m)) rounds [.int .i64 part, .int .u64 t, .pointer (some ⟨H.next, 0, none⟩), .int .u64 0, .bool false, .int .u64 1] H1 = some (j, vs', H') from e]
  rcases hq with ⟨rfl, hn⟩ | ⟨rfl, x, hn, hv1, hv2⟩
  · simp only [bindS, boolKT, boolKF, natK0, natK1, natK2, natK3, natKS, chkKT, bin_add, bin_sub, bin_mul, bin_eql, bin_neq, bin_lss, bin_leq, bin_gtr, bin_geq, un_not, un_neg, conv_int, min_op, max_op, extract_nth, load_one, load_agg, agg_some, field_ptr, len_slice, len_str, len_arr, nil_check, nil_check_f, callTo_func, pick_true, pick_false, cells_agg, cells_int, cells_ptr, cells_slice, cells_bool, cells_str, push_box, getT_zero, getT_succ, List.getElem?_cons_zero, List.getElem?_cons_succ, List.cons_append, List.nil_append, Bool.not_true, Bool.not_false, ne_eq, not_true_eq_false, decide_false, decide_true, not_false_eq_true, Nat.add_zero, Nat.zero_add, new_box, fill_box1, fill_box1s, fill_box1p, fill_box1b, ↓reduceIte, List.all_cons, List.all_nil, Bool.and_true, Bool.and_self, one_int, one_ptr, one_slice, one_bool, one_str, one_nil, one_iface, List.length_cons, List.length_nil, boolK_pos, boolK_neg, boolK_npos, boolK_nneg, wrap_i64, wrap_u64, wrap_u8, wrap_u32, pick_pos, pick_neg, bin_quo_nn, bin_rem_nn, bin_shr1, hn]; rfl
  · simp only [bindS, boolKT, boolKF, natK0, natK1, natK2, natK3, natKS, chkKT, bin_add, bin_sub, bin_mul, bin_eql, bin_neq, bin_lss, bin_leq, bin_gtr, bin_geq, un_not, un_neg, conv_int, min_op, max_op, extract_nth, load_one, load_agg, agg_some, field_ptr, len_slice, len_str, len_arr, nil_check, nil_check_f, callTo_func, pick_true, pick_false, cells_agg, cells_int, cells_ptr, cells_slice, cells_bool, cells_str, push_box, getT_zero, getT_succ, List.getElem?_cons_zero, List.getElem?_cons_succ, List.cons_append, List.nil_append, Bool.not_true, Bool.not_false, ne_eq, not_true_eq_false, decide_false, decide_true, not_false_eq_true, Nat.add_zero, Nat.zero_add, new_box, fill_box1, fill_box1s, fill_box1p, fill_box1b, ↓reduceIte, List.all_cons, List.all_nil, Bool.and_true, Bool.and_self, one_int, one_ptr, one_slice, one_bool, one_str, one_nil, one_iface, List.length_cons, List.length_nil, boolK_pos, boolK_neg, boolK_npos, boolK_nneg, wrap_i64, wrap_u64, wrap_u8, wrap_u32, pick_pos, pick_neg, bin_quo_nn, bin_rem_nn, bin_shr1, hn, hv1, hv2]; rfl

theorem s13 {m : Nat} (hm : 1 ≤ m) {H : AHeap} {x : Int} (hx : 0 ≤ x) : ∃ y : Int, 0 ≤ y ∧ y ≤ 1023 ∧ ttD m 13 [.int .u64 x] H = some (.int .i64 y, H) := by
  obtain ⟨m, rfl⟩ : ∃ k, m = k + 1 := ⟨m - 1, by omega⟩
  have hb : (x.toNat % span .u64) &&& ((1023 : Int).toNat % span .u64) ≤ 1023 := Nat.and_le_right
  have hw : wrapI .u64 (((x.toNat % span .u64) &&& ((1023 : Int).toNat % span .u64) : Nat) : Int) = (((x.toNat % span .u64) &&& ((1023 : Int).toNat % span .u64) : Nat) : Int) := by
    rw [wrapI_eq, wrap_u64 (by omega) (by omega)]
  refine ⟨(((x.toNat % span .u64) &&& ((1023 : Int).toNat % span .u64) : Nat) : Int), by omega, by omega, ttD13 ?_⟩
  unfold tt13
  rw [bin_and _ _ _ _ _ _ _ hx (by omega), hw]
  generalize (x.toNat % span .u64) &&& ((1023 : Int).toNat % span .u64) = z at *
  simp (disch := omega) only [bindS, boolKT, boolKF, natK0, natK1, natK2, natK3, natKS, chkKT, bin_add, bin_sub, bin_mul, bin_eql, bin_neq, bin_lss, bin_leq, bin_gtr, bin_geq, un_not, un_neg, conv_int, min_op, max_op, extract_nth, load_one, load_agg, agg_some, field_ptr, len_slice, len_str, len_arr, nil_check, nil_check_f, callTo_func, pick_true, pick_false, cells_agg, cells_int, cells_ptr, cells_slice, cells_bool, cells_str, push_box, getT_zero, getT_succ, List.getElem?_cons_zero, List.getElem?_cons_succ, List.cons_append, List.nil_append, Bool.not_true, Bool.not_false, ne_eq, not_true_eq_false, decide_false, decide_true, not_false_eq_true, Nat.add_zero, Nat.zero_add, new_box, fill_box1, fill_box1s, fill_box1p, fill_box1b, ↓reduceIte, List.all_cons, List.all_nil, Bool.and_true, Bool.and_self, one_int, one_ptr, one_slice, one_bool, one_str, one_nil, one_iface, List.length_cons, List.length_nil, boolK_pos, boolK_neg, boolK_npos, boolK_nneg, wrap_i64, wrap_u64, wrap_u8, wrap_u32, pick_pos, pick_neg, bin_quo_nn, bin_rem_nn, bin_shr1]

end Go.Abs
