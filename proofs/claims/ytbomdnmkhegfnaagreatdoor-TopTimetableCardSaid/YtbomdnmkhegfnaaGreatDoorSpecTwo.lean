/-
  WHAT THE CAP's AND THE CHANNEL's FUNCTIONS RECKON.
-/
import Derived.Test.YtbomdnmkhegfnaaGreatDoorSpecOne
set_option linter.all false
namespace Go.Abs
open Go.Proofs Go.Tt

def capL (r b l : Int) : List Value := [.int .i64 r, .int .i64 b, .int .i64 l]
/-- A cap that may be. -/
def CapOk (r b l : Int) : Prop := 0 ≤ r ∧ r ≤ b ∧ b ≤ 64 ∧ 0 ≤ l ∧ l ≤ b

theorem s24 {m : Nat} (hm : 1 ≤ m) {H : AHeap} {r b l : Int} (h : CapOk r b l) : ttD m 24 [.agg (capL r b l).toArray] H = some (.bool true, box H (capL r b l)) := by
  obtain ⟨m, rfl⟩ : ∃ k, m = k + 1 := ⟨m - 1, by omega⟩
  obtain ⟨h1, h2, h3, h4, h5⟩ := h
  refine ttD24 ?_
  have r0 : Row (box H (capL r b l)) H.next (capL r b l) := (has_box _ _).row
  unfold tt24
  simp only [capL] at r0 ⊢
  simp (disch := omega) only [bindS, boolKT, boolKF, natK0, natK1, natK2, natK3, natKS, chkKT, bin_add, bin_sub, bin_mul, bin_eql, bin_neq, bin_lss, bin_leq, bin_gtr, bin_geq, un_not, un_neg, conv_int, min_op, max_op, extract_nth, load_one, load_agg, agg_some, field_ptr, len_slice, len_str, len_arr, nil_check, nil_check_f, callTo_func, pick_true, pick_false, cells_agg, cells_int, cells_ptr, cells_slice, cells_bool, cells_str, push_box, getT_zero, getT_succ, List.getElem?_cons_zero, List.getElem?_cons_succ, List.cons_append, List.nil_append, Bool.not_true, Bool.not_false, ne_eq, not_true_eq_false, decide_false, decide_true, not_false_eq_true, Nat.add_zero, Nat.zero_add, new_box, fill_box1, fill_box1s, fill_box1p, fill_box1b, ↓reduceIte, List.all_cons, List.all_nil, Bool.and_true, Bool.and_self, one_int, one_ptr, one_slice, one_bool, one_str, one_nil, one_iface, List.length_cons, List.length_nil, boolK_pos, boolK_neg, boolK_npos, boolK_nneg, wrap_i64, wrap_u64, wrap_u8, wrap_u32, pick_pos, pick_neg, bin_quo_nn, bin_rem_nn, bin_shr1, cell_at r0]
  simp only [h5, decide_true]

theorem ret3 {H : AHeap} {b : Nat} {l : List Value} (h : Row H b l) (hl : l.length = 3) (vs : Option (List Value)) : consOpt (loadA (some (some 3)) (.pointer (some ⟨b, 0, none⟩)) H) vs = consOpt (some (.agg l.toArray)) vs := by
  rw [load_agg, cells_at h (by omega), List.drop_zero, List.take_of_length_le (by omega), agg_some]

theorem s15 {m : Nat} (hm : 2 ≤ m) {H : AHeap} {r b : Int} (h : CapOk r b b) : ∃ H', ttD m 15 [.int .i64 r, .int .i64 b] H = some (.tuple [.agg (capL r b b).toArray, .int .i64 0].toArray, H') ∧ Ext H H' := by
  obtain ⟨m, rfl⟩ : ∃ k, m = k + 1 := ⟨m - 1, by omega⟩
  let H0 := box H [.int .i64 0, .int .i64 0, .int .i64 0]
  let H1 := boxed H0 [.int .i64 0, .int .i64 0, .int .i64 0] (capL r b b)
  let H2 := box H1 (capL r b b)
  have x0 : Ext H H0 := ext_box _ _
  have x1 : Ext H0 H1 := ext_boxed _ _ _
  have x2 : Ext H1 H2 := ext_box _ _
  have e24 := s24 (m := m) (by omega) (H := H1) h
  have hb0 : Has H0 H.next (.cells [.int .i64 0, .int .i64 0, .int .i64 0]) := has_box _ _
  have r1 : Row H1 H0.next (capL r b b) := (has_boxed _ _ _).row
  have hb2 : Has H2 H.next (.cells [.int .i64 0, .int .i64 0, .int .i64 0]) := (hb0.ext x1).ext x2
  have r2 : Row H2 H0.next (capL r b b) := r1.ext x2
  refine ⟨H2.set H.next (some (.cells (capL r b b))), ttD15 ?_, ((x0.trans x1).trans x2).setNew (Nat.le_refl _) _⟩
  have hr : Row (H2.set H.next (some (.cells (capL r b b)))) H.next (capL r b b) := (hb2.setEq _).row
  have hst : storeA (some 3) (.pointer (some ⟨H.next, 0, none⟩)) (.agg (capL r b b).toArray) H2 = some (undef, H2.set H.next (some (.cells (capL r b b)))) := by
    rw [store_aggs (vs := capL r b b) (n := 3) hb2 rfl (by simp [capL]) rfl, splice_eq _ _ _ (by simp [capL])]; rfl
  unfold tt15
  rw [build50]
  have hfb := fill_box H0 [.int .i64 0, .int .i64 0, .int .i64 0] (capL r b b) 3 rfl
  simp only [Option.bind_some, push_box]
  change ((storeA (some 3) (.pointer (some ⟨H0.next, 0, none⟩)) (.agg (capL r b b).toArray) (box H0 [.int .i64 0, .int .i64 0, .int .i64 0])).bind _) = _
  rw [hfb]
  simp only [Option.bind_some, load_agg]
  change ((aggOf (H1.cells ⟨H0.next, 0, none⟩ 3)).bind _) = _
  rw [cells_at r1 (by simp [capL])]
  have ht : (List.take 3 (List.drop 0 (capL r b b))) = capL r b b := rfl
  rw [ht]
  simp only [agg_some, Option.bind_some]
  change ((ttD m 24 [.agg (capL r b b).toArray] H1).bind _) = _
  rw [e24]
  simp only [bindS, boolKT, boolKF, natK0, natK1, natK2, natK3, natKS, chkKT, bin_add, bin_sub, bin_mul, bin_eql, bin_neq, bin_lss, bin_leq, bin_gtr, bin_geq, un_not, un_neg, conv_int, min_op, max_op, extract_nth, load_one, load_agg, agg_some, field_ptr, len_slice, len_str, len_arr, nil_check, nil_check_f, callTo_func, pick_true, pick_false, cells_agg, cells_int, cells_ptr, cells_slice, cells_bool, cells_str, push_box, getT_zero, getT_succ, List.getElem?_cons_zero, List.getElem?_cons_succ, List.cons_append, List.nil_append, Bool.not_true, Bool.not_false, ne_eq, not_true_eq_false, decide_false, decide_true, not_false_eq_true, Nat.add_zero, Nat.zero_add, new_box, fill_box1, fill_box1s, fill_box1p, fill_box1b, ↓reduceIte, List.all_cons, List.all_nil, Bool.and_true, Bool.and_self, one_int, one_ptr, one_slice, one_bool, one_str, one_nil, one_iface, List.length_cons, List.length_nil, boolK_pos, boolK_neg, boolK_npos, boolK_nneg, wrap_i64, wrap_u64, wrap_u8, wrap_u32, pick_pos, pick_neg, bin_quo_nn, bin_rem_nn, bin_shr1]
  change ((aggOf (H2.cells ⟨H0.next, 0, none⟩ 3)).bind _) = _
  rw [cells_at r2 (by simp [capL]), ht]
  simp only [agg_some, Option.bind_some]
  change ((storeA (some 3) (.pointer (some ⟨H.next, 0, none⟩)) (.agg (capL r b b).toArray) H2).bind _) = _
  rw [hst]
  simp only [Option.bind_some]
  rw [cells_at hr (by simp [capL]), ht]
  try rfl


abbrev z3 : List Value := [.int .i64 0, .int .i64 0, .int .i64 0]

theorem splice_whole (l vs : List Value) (h : l.length = vs.length) : splice l 0 vs = vs := by
  rw [splice_eq _ _ _ (by omega)]; simp; omega
theorem store_all {H : AHeap} {b : Nat} {l vs : List Value} {n : Nat} (h : Has H b (.cells l)) (hl : l.length = n) (hv : vs.length = n) (ha : vs.all oneCell = true) :
    storeA (some n) (.pointer (some ⟨b, 0, none⟩)) (.agg vs.toArray) H = some (undef, H.set b (some (.cells vs))) := by
  rw [store_aggs h hv (by omega) ha, splice_whole _ _ (by omega)]
theorem cells_all {H : AHeap} {b : Nat} {l : List Value} {n : Nat} (h : Row H b l) (hl : l.length = n) : H.cells ⟨b, 0, none⟩ n = some l := by
  rw [cells_at h (by omega), List.drop_zero, List.take_of_length_le (by omega)]

theorem s17 {m : Nat} (hm : 2 ≤ m) {H : AHeap} {r b l : Int} (h : CapOk r b l) : ∃ H', ttD m 17 [.agg (capL r b l).toArray] H = some (.agg (capL r b (min (l + r) b)).toArray, H') ∧ Ext H H' := by
  obtain ⟨m, rfl⟩ : ∃ k, m = k + 1 := ⟨m - 1, by omega⟩
  obtain ⟨h1, h2, h3, h4, h5⟩ := id h
  generalize hH2 : box (box (box H (capL r b l)) z3) (capL r b l) = H2
  have x0 : Ext H H2 := by rw [← hH2]; exact (ext_box _ _).trans ((ext_box _ _).trans (ext_box _ _))
  have ha : Has H2 H.next (.cells (capL r b l)) := by rw [← hH2]; exact ((has_box _ _).ext (ext_box _ _)).ext (ext_box _ _)
  have hz : Has H2 (H.next + 1) (.cells z3) := by rw [← hH2]; exact (has_box (box H (capL r b l)) z3).ext (ext_box _ _)
  have e24 := s24 (m := m) (by omega) (H := box (box H (capL r b l)) z3) h
  rw [hH2] at e24
  have r1 : Row (box (box H (capL r b l)) z3) H.next (capL r b l) := ((has_box _ _).ext (ext_box _ _)).row
  have ra := ha.row
  have hst := store_one (o := 2) ha (by simp [capL]) (v := .int .i64 (min (l + r) b)) rfl rfl
  have ha' := ha.setEq (.cells ((capL r b l).set 2 (.int .i64 (min (l + r) b))))
  have hz' := hz.setNe (c := H.next) (by omega) (some (.cells ((capL r b l).set 2 (.int .i64 (min (l + r) b)))))
  have hst2 := store_all (n := 3) hz' rfl (vs := capL r b (min (l + r) b)) rfl rfl
  have hz2 := (hz'.setEq (.cells (capL r b (min (l + r) b)))).row
  refine ⟨(H2.set H.next (some (.cells ((capL r b l).set 2 (.int .i64 (min (l + r) b)))))).set (H.next + 1) (some (.cells (capL r b (min (l + r) b)))), ttD17 ?_, (x0.setNew (Nat.le_refl _) _).setNew (by omega) _⟩
  unfold tt17
  rw [cells_agg, new_box, show (capL r b l).all oneCell = true from rfl]
  simp only [if_true, Option.bind_some, load_agg, push_box]
  rw [cells_all (n := 3) r1 rfl]
  simp only [agg_some, Option.bind_some]
  rw [e24]
  have ra0 := cell_at ra 0
  have ra1 := cell_at ra 1
  have ra2 := cell_at ra 2
  simp only [capL, List.getElem?_cons_zero, List.getElem?_cons_succ] at ra0 ra1 ra2
  simp (disch := omega) only [bindS, boolKT, boolKF, natK0, natK1, natK2, natK3, natKS, chkKT, bin_add, bin_sub, bin_mul, bin_eql, bin_neq, bin_lss, bin_leq, bin_gtr, bin_geq, un_not, un_neg, conv_int, min_op, max_op, extract_nth, load_one, load_agg, agg_some, field_ptr, len_slice, len_str, len_arr, nil_check, nil_check_f, callTo_func, pick_true, pick_false, cells_agg, cells_int, cells_ptr, cells_slice, cells_bool, cells_str, push_box, getT_zero, getT_succ, List.getElem?_cons_zero, List.getElem?_cons_succ, List.cons_append, List.nil_append, Bool.not_true, Bool.not_false, ne_eq, not_true_eq_false, decide_false, decide_true, not_false_eq_true, Nat.add_zero, Nat.zero_add, new_box, fill_box1, fill_box1s, fill_box1p, fill_box1b, ↓reduceIte, List.all_cons, List.all_nil, Bool.and_true, Bool.and_self, one_int, one_ptr, one_slice, one_bool, one_str, one_nil, one_iface, List.length_cons, List.length_nil, boolK_pos, boolK_neg, boolK_npos, boolK_nneg, wrap_i64, wrap_u64, wrap_u8, wrap_u32, pick_pos, pick_neg, bin_quo_nn, bin_rem_nn, bin_shr1, ra0, ra1, ra2, hst]
  rw [cells_all (n := 3) ha'.row rfl, show (capL r b l).set 2 (.int .i64 (min (l + r) b)) = capL r b (min (l + r) b) from rfl] at *
  simp only [agg_some, Option.bind_some, next_box]
  rw [hst2]
  simp only [Option.bind_some]
  rw [cells_all (n := 3) hz2 rfl]
  rfl

theorem s18 {m : Nat} (hm : 2 ≤ m) {H : AHeap} {r b l : Int} (h : CapOk r b l) : ∃ H', ttD m 18 [.agg (capL r b l).toArray] H = some (.tuple [.agg (capL r b (if l = 0 then 0 else l - 1)).toArray, .bool (decide (l ≠ 0))].toArray, H') ∧ Ext H H' := by
  obtain ⟨m, rfl⟩ : ∃ k, m = k + 1 := ⟨m - 1, by omega⟩
  obtain ⟨h1, h2, h3, h4, h5⟩ := id h
  generalize hH2 : box (box (box H (capL r b l)) z3) (capL r b l) = H2
  have x0 : Ext H H2 := by rw [← hH2]; exact (ext_box _ _).trans ((ext_box _ _).trans (ext_box _ _))
  have ha : Has H2 H.next (.cells (capL r b l)) := by rw [← hH2]; exact ((has_box _ _).ext (ext_box _ _)).ext (ext_box _ _)
  have hz : Has H2 (H.next + 1) (.cells z3) := by rw [← hH2]; exact (has_box (box H (capL r b l)) z3).ext (ext_box _ _)
  have e24 := s24 (m := m) (by omega) (H := box (box H (capL r b l)) z3) h
  rw [hH2] at e24
  have r1 : Row (box (box H (capL r b l)) z3) H.next (capL r b l) := ((has_box _ _).ext (ext_box _ _)).row
  have ra := ha.row
  have ra2 := cell_at ra 2
  simp only [capL, List.getElem?_cons_zero, List.getElem?_cons_succ] at ra2
  by_cases hl : l = 0
  · subst hl
    have hst2 := store_all (n := 3) hz rfl (vs := capL r b 0) rfl rfl
    have hz2 := (hz.setEq (.cells (capL r b 0))).row
    refine ⟨H2.set (H.next + 1) (some (.cells (capL r b 0))), ttD18 ?_, x0.setNew (by omega) _⟩
    unfold tt18 tt18j10
    rw [cells_agg, new_box, show (capL r b 0).all oneCell = true from rfl]
    simp only [if_true, Option.bind_some, load_agg, push_box]
    rw [cells_all (n := 3) r1 rfl]
    simp only [agg_some, Option.bind_some]
    rw [e24]
    simp (disch := omega) only [bindS, boolKT, boolKF, natK0, natK1, natK2, natK3, natKS, chkKT, bin_add, bin_sub, bin_mul, bin_eql, bin_neq, bin_lss, bin_leq, bin_gtr, bin_geq, un_not, un_neg, conv_int, min_op, max_op, extract_nth, load_one, load_agg, agg_some, field_ptr, len_slice, len_str, len_arr, nil_check, nil_check_f, callTo_func, pick_true, pick_false, cells_agg, cells_int, cells_ptr, cells_slice, cells_bool, cells_str, push_box, getT_zero, getT_succ, List.getElem?_cons_zero, List.getElem?_cons_succ, List.cons_append, List.nil_append, Bool.not_true, Bool.not_false, ne_eq, not_true_eq_false, decide_false, decide_true, not_false_eq_true, Nat.add_zero, Nat.zero_add, new_box, fill_box1, fill_box1s, fill_box1p, fill_box1b, ↓reduceIte, List.all_cons, List.all_nil, Bool.and_true, Bool.and_self, one_int, one_ptr, one_slice, one_bool, one_str, one_nil, one_iface, List.length_cons, List.length_nil, boolK_pos, boolK_neg, boolK_npos, boolK_nneg, wrap_i64, wrap_u64, wrap_u8, wrap_u32, pick_pos, pick_neg, bin_quo_nn, bin_rem_nn, bin_shr1, ra2]
    rw [cells_all (n := 3) ra rfl]
    simp only [agg_some, Option.bind_some, next_box]
    rw [hst2]
    simp only [Option.bind_some]
    rw [cells_all (n := 3) hz2 rfl]
    rfl
  · have hst := store_one (o := 2) ha (by simp [capL]) (v := .int .i64 (l - 1)) rfl rfl
    have ha' := ha.setEq (.cells ((capL r b l).set 2 (.int .i64 (l - 1))))
    have hz' := hz.setNe (c := H.next) (by omega) (some (.cells ((capL r b l).set 2 (.int .i64 (l - 1)))))
    have hst2 := store_all (n := 3) hz' rfl (vs := capL r b (l - 1)) rfl rfl
    have hz2 := (hz'.setEq (.cells (capL r b (l - 1)))).row
    refine ⟨(H2.set H.next (some (.cells ((capL r b l).set 2 (.int .i64 (l - 1)))))).set (H.next + 1) (some (.cells (capL r b (l - 1)))), ttD18 ?_, (x0.setNew (Nat.le_refl _) _).setNew (by omega) _⟩
    unfold tt18 tt18j10
    rw [cells_agg, new_box, show (capL r b l).all oneCell = true from rfl]
    simp only [if_true, Option.bind_some, load_agg, push_box]
    rw [cells_all (n := 3) r1 rfl]
    simp only [agg_some, Option.bind_some]
    rw [e24]
    simp (disch := omega) only [bindS, boolKT, boolKF, natK0, natK1, natK2, natK3, natKS, chkKT, bin_add, bin_sub, bin_mul, bin_eql, bin_neq, bin_lss, bin_leq, bin_gtr, bin_geq, un_not, un_neg, conv_int, min_op, max_op, extract_nth, load_one, load_agg, agg_some, field_ptr, len_slice, len_str, len_arr, nil_check, nil_check_f, callTo_func, pick_true, pick_false, cells_agg, cells_int, cells_ptr, cells_slice, cells_bool, cells_str, push_box, getT_zero, getT_succ, List.getElem?_cons_zero, List.getElem?_cons_succ, List.cons_append, List.nil_append, Bool.not_true, Bool.not_false, ne_eq, not_true_eq_false, decide_false, decide_true, not_false_eq_true, Nat.add_zero, Nat.zero_add, new_box, fill_box1, fill_box1s, fill_box1p, fill_box1b, ↓reduceIte, List.all_cons, List.all_nil, Bool.and_true, Bool.and_self, one_int, one_ptr, one_slice, one_bool, one_str, one_nil, one_iface, List.length_cons, List.length_nil, boolK_pos, boolK_neg, boolK_npos, boolK_nneg, wrap_i64, wrap_u64, wrap_u8, wrap_u32, pick_pos, pick_neg, bin_quo_nn, bin_rem_nn, bin_shr1, ra2, hst]
    rw [cells_all (n := 3) ha'.row rfl, show (capL r b l).set 2 (.int .i64 (l - 1)) = capL r b (l - 1) from rfl] at *
    simp only [agg_some, Option.bind_some, next_box]
    rw [hst2]
    simp only [Option.bind_some]
    rw [cells_all (n := 3) hz2 rfl, if_neg hl]
    simp [hl]
    try rfl

end Go.Abs
