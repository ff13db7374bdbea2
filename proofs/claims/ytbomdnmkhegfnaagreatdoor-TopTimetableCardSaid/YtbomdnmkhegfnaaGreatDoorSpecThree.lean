/-
  A CHANNEL IS ITS ROW: what the channel's functions reckon.
-/
import Derived.Test.YtbomdnmkhegfnaaGreatDoorSpecTwo
import Derived.Test.YtbomdnmkhegfnaaGreatDoorTopOne
set_option linter.all false
namespace Go.Abs
open Go.Proofs Go.Tt

/-! ## A channel's cells -/

structure Chan where
  kind : Int
  most : Int
  size : Int
  ring : List Msg
  first : Nat
  n : Nat
  lost : Int

def Chan.cells (c : Chan) : List Value := chCells c.kind c.most c.size c.ring c.first c.n c.lost

theorem ring_len {ring : List Msg} (h : ring.length = 16) : (ring.flatMap mcells).length = 1056 := by rw [flat_len mcells_len, h]
theorem Chan.len {c : Chan} (h : c.ring.length = 16) : c.cells.length = 1062 := by
  simp only [Chan.cells, chCells, List.length_append, ring_len h, List.length_cons, List.length_nil]
theorem Chan.c0 (c : Chan) : c.cells[0]? = some (.int .i64 c.kind) := rfl
theorem Chan.c1 (c : Chan) : c.cells[1]? = some (.int .i64 c.most) := rfl
theorem Chan.c2 (c : Chan) : c.cells[2]? = some (.int .i64 c.size) := rfl
theorem Chan.tail {c : Chan} (h : c.ring.length = 16) (j : Nat) : c.cells[1059 + j]? = ([.int .i64 c.first, .int .i64 c.n, .int .u64 c.lost] : List Value)[j]? := by
  simp only [Chan.cells, chCells]
  rw [List.getElem?_append_right (by simp only [List.length_append, ring_len h, List.length_cons, List.length_nil]; omega)]
  congr 1
  simp only [List.length_append, ring_len h, List.length_cons, List.length_nil]; omega
theorem Chan.c1059 {c : Chan} (h : c.ring.length = 16) : c.cells[1059]? = some (.int .i64 c.first) := c.tail h 0
theorem Chan.c1060 {c : Chan} (h : c.ring.length = 16) : c.cells[1060]? = some (.int .i64 c.n) := c.tail h 1
theorem Chan.c1061 {c : Chan} (h : c.ring.length = 16) : c.cells[1061]? = some (.int .u64 c.lost) := c.tail h 2
theorem Chan.setTail {c : Chan} (h : c.ring.length = 16) (j : Nat) (v : Value) : c.cells.set (1059 + j) v = (([.int .i64 c.kind, .int .i64 c.most, .int .i64 c.size] : List Value) ++ c.ring.flatMap mcells) ++ ([.int .i64 c.first, .int .i64 c.n, .int .u64 c.lost] : List Value).set j v := by
  simp only [Chan.cells, chCells]
  rw [List.set_append_right _ _ (by simp only [List.length_append, ring_len h, List.length_cons, List.length_nil]; omega)]
  congr 2
  simp only [List.length_append, ring_len h, List.length_cons, List.length_nil]; omega
theorem Chan.set1059 {c : Chan} (h : c.ring.length = 16) (x : Nat) : c.cells.set 1059 (.int .i64 (x : Int)) = { c with first := x }.cells := c.setTail h 0 _
theorem Chan.set1060 {c : Chan} (h : c.ring.length = 16) (x : Nat) : c.cells.set 1060 (.int .i64 (x : Int)) = { c with n := x }.cells := c.setTail h 1 _
theorem Chan.set1061 {c : Chan} (h : c.ring.length = 16) (x : Int) : c.cells.set 1061 (.int .u64 x) = { c with lost := x }.cells := c.setTail h 2 _

theorem flat_set {α : Type} {f : α → List Value} {n : Nat} (hf : ∀ x, (f x).length = n) {l : List α} {i : Nat} (hi : i < l.length) (x : α) : (l.set i x).flatMap f = (l.flatMap f).take (i * n) ++ f x ++ (l.flatMap f).drop (i * n + n) := by
  rw [show i * n + n = (i + 1) * n by rw [Nat.add_mul, Nat.one_mul], flat_take hf, flat_drop hf, List.set_eq_take_append_cons_drop, if_pos hi]
  simp
theorem Chan.splice {c : Chan} (h : c.ring.length = 16) {i : Nat} (hi : i < 16) (m : Msg) : Go.Abs.splice c.cells (3 + i * 66) (mcells m) = { c with ring := c.ring.set i m }.cells := by
  have hl := c.len h
  rw [splice_eq _ _ _ (by rw [mcells_len, hl]; omega), mcells_len]
  simp only [Chan.cells, chCells]
  have hr := ring_len h
  rw [flat_set mcells_len (by omega) m]
  have e1 : List.take (3 + i * 66) (([.int .i64 c.kind, .int .i64 c.most, .int .i64 c.size] : List Value) ++ c.ring.flatMap mcells ++ ([.int .i64 c.first, .int .i64 c.n, .int .u64 c.lost] : List Value)) = ([.int .i64 c.kind, .int .i64 c.most, .int .i64 c.size] : List Value) ++ (c.ring.flatMap mcells).take (i * 66) := by
    rw [List.append_assoc, List.take_append, List.take_append]
    simp only [List.length_cons, List.length_nil, hr]
    rw [show 3 + i * 66 - (0 + 1 + 1 + 1) = i * 66 by omega, show i * 66 - 1056 = 0 by omega, List.take_of_length_le (by simp)]
    simp
  have e2 : List.drop (3 + i * 66 + 66) (([.int .i64 c.kind, .int .i64 c.most, .int .i64 c.size] : List Value) ++ c.ring.flatMap mcells ++ ([.int .i64 c.first, .int .i64 c.n, .int .u64 c.lost] : List Value)) = (c.ring.flatMap mcells).drop (i * 66 + 66) ++ ([.int .i64 c.first, .int .i64 c.n, .int .u64 c.lost] : List Value) := by
    rw [List.append_assoc, List.drop_append, List.drop_append]
    simp only [List.length_cons, List.length_nil, hr]
    rw [show 3 + i * 66 + 66 - (0 + 1 + 1 + 1) = i * 66 + 66 by omega, show i * 66 + 66 - 1056 = 0 by omega, List.drop_of_length_le (by simp)]
    simp
  rw [e1, e2]
  simp
theorem Chan.at {c : Chan} (h : c.ring.length = 16) {i : Nat} {m : Msg} (hm : c.ring[i]? = some m) : ((c.cells.drop (3 + i * 66)).take 66) = mcells m := by
  have hi := (List.getElem?_eq_some_iff.1 hm).1
  have hr := ring_len h
  simp only [Chan.cells, chCells]
  rw [List.append_assoc, List.drop_append]
  simp only [List.length_cons, List.length_nil]
  rw [show 3 + i * 66 - (0 + 1 + 1 + 1) = i * 66 by omega, List.drop_of_length_le (by simp), List.nil_append, List.drop_append, List.take_append, flat_at mcells_len hm]
  simp only [hr, List.length_drop]
  rw [show 66 - (1056 - i * 66) = 0 by omega]
  simp
theorem mcells_one (m : Msg) : (mcells m).all oneCell = true := by
  simp only [mcells, bcells, List.all_append, List.all_map, Bool.and_eq_true]
  exact ⟨List.all_eq_true.2 fun x _ => rfl, rfl⟩
theorem Chan.one (c : Chan) : c.cells.all oneCell = true := by
  simp only [Chan.cells, chCells, List.all_append, Bool.and_eq_true]
  refine ⟨⟨rfl, ?_⟩, rfl⟩
  rw [List.all_flatMap]
  exact List.all_eq_true.2 fun m _ => mcells_one m
theorem mcells_scalar (m : Msg) : (mcells m).all scalar = true := by
  simp only [mcells, bcells, List.all_append, List.all_map, Bool.and_eq_true]
  exact ⟨List.all_eq_true.2 fun x _ => rfl, rfl⟩

/-! ## The row that a ring holds -/

def padMsg (bs : List Int) (t : Int) : Msg := ⟨(bs ++ List.replicate 64 0).take 64, by simp, bs.length, t⟩

abbrev Queue := List (List Int × Int)
def QOk (c : Chan) (q : Queue) : Prop := c.ring.length = 16 ∧ c.first < 16 ∧ c.n = q.length ∧ ∀ (i : Nat) bs t, q[i]? = some (bs, t) → bs.length ≤ 64 ∧ c.ring[(c.first + i) % 16]? = some (padMsg bs t)

theorem QOk.push {c : Chan} {q : Queue} (h : QOk c q) (hq : q.length < 16) {bs : List Int} (hb : bs.length ≤ 64) (t : Int) : QOk { c with ring := c.ring.set ((c.first + c.n) % 16) (padMsg bs t), n := c.n + 1 } (q ++ [(bs, t)]) := by
  obtain ⟨h1, h2, h3, h4⟩ := h
  refine ⟨by simp [h1], h2, by simp [h3], fun i bs' t' hi => ?_⟩
  simp only [h3]
  rcases Nat.lt_or_ge i q.length with hlt | hge
  · rw [List.getElem?_append_left hlt] at hi
    obtain ⟨g1, g2⟩ := h4 i bs' t' hi
    exact ⟨g1, by rw [List.getElem?_set, if_neg (by omega)]; exact g2⟩
  · have hlt := (List.getElem?_eq_some_iff.1 hi).1
    simp at hlt
    obtain rfl : i = q.length := by omega
    simp at hi
    obtain ⟨rfl, rfl⟩ := hi
    exact ⟨hb, by rw [List.getElem?_set, if_pos rfl, if_pos (by omega)]⟩
theorem QOk.pop {c : Chan} {bs : List Int} {t : Int} {q : Queue} (h : QOk c ((bs, t) :: q)) (hq : q.length < 16) (z : Msg) : QOk { c with ring := c.ring.set c.first z, first := (c.first + 1) % 16, n := c.n - 1 } q := by
  obtain ⟨h1, h2, h3, h4⟩ := h
  simp only [List.length_cons] at h3
  refine ⟨by simp [h1], by simp only; omega, by simp only; omega, fun i bs' t' hi => ?_⟩
  have hlt := (List.getElem?_eq_some_iff.1 hi).1
  obtain ⟨g1, g2⟩ := h4 (i + 1) bs' t' (by simpa using hi)
  refine ⟨g1, ?_⟩
  simp only
  rw [show ((c.first + 1) % 16 + i) % 16 = (c.first + (i + 1)) % 16 by omega, List.getElem?_set, if_neg (by omega)]
  exact g2
theorem QOk.empty {c : Chan} {q : Queue} (h : QOk c q) : QOk { c with n := 0 } [] := ⟨h.1, h.2.1, rfl, fun i bs t hi => by simp at hi⟩
theorem QOk.lost {c : Chan} {q : Queue} (h : QOk c q) (x : Int) : QOk { c with lost := x } q := h

/-! ## New, Kind, Waiting, Lost, Clone -/

theorem s14 {m : Nat} (hm : 1 ≤ m) {H : AHeap} {kind most size : Int} (hk : 0 ≤ kind ∧ kind ≤ 2) (hm1 : 1 ≤ most ∧ most ≤ 16) (hs : kind = 0 → most = 1) (hz : 0 ≤ size ∧ size ≤ 64) :
    ttD m 14 [.int .i64 kind, .int .i64 most, .int .i64 size] H = some (.tuple [.pointer (some ⟨H.next, 0, none⟩), .int .i64 0].toArray, box H (Chan.cells ⟨kind, most, size, List.replicate 16 zMsg, 0, 0, 0⟩)) := by
  obtain ⟨m, rfl⟩ : ∃ k, m = k + 1 := ⟨m - 1, by omega⟩
  refine ttD14 ?_
  have ho := Chan.one ⟨kind, most, size, List.replicate 16 zMsg, 0, 0, 0⟩
  simp only [Chan.cells, Int.natCast_zero] at ho ⊢
  unfold tt14 tt14j33
  rcases (show kind = 0 ∨ kind = 1 ∨ kind = 2 by omega) with rfl | rfl | rfl
  · obtain rfl := hs rfl
    simp (disch := omega) only [bindS, boolKT, boolKF, natK0, natK1, natK2, natK3, natKS, chkKT, bin_add, bin_sub, bin_mul, bin_eql, bin_neq, bin_lss, bin_leq, bin_gtr, bin_geq, un_not, un_neg, conv_int, min_op, max_op, extract_nth, load_one, load_agg, agg_some, field_ptr, len_slice, len_str, len_arr, nil_check, nil_check_f, callTo_func, pick_true, pick_false, cells_agg, cells_int, cells_ptr, cells_slice, cells_bool, cells_str, push_box, getT_zero, getT_succ, List.getElem?_cons_zero, List.getElem?_cons_succ, List.cons_append, List.nil_append, Bool.not_true, Bool.not_false, ne_eq, not_true_eq_false, decide_false, decide_true, not_false_eq_true, Nat.add_zero, Nat.zero_add, new_box, fill_box1, fill_box1s, fill_box1p, fill_box1b, ↓reduceIte, List.all_cons, List.all_nil, Bool.and_true, Bool.and_self, one_int, one_ptr, one_slice, one_bool, one_str, one_nil, one_iface, List.length_cons, List.length_nil, boolK_pos, boolK_neg, boolK_npos, boolK_nneg, wrap_i64, wrap_u64, wrap_u8, wrap_u32, pick_pos, pick_neg, bin_quo_nn, bin_rem_nn, bin_shr1, build105, ho]
    try rfl
  · simp (disch := omega) only [bindS, boolKT, boolKF, natK0, natK1, natK2, natK3, natKS, chkKT, bin_add, bin_sub, bin_mul, bin_eql, bin_neq, bin_lss, bin_leq, bin_gtr, bin_geq, un_not, un_neg, conv_int, min_op, max_op, extract_nth, load_one, load_agg, agg_some, field_ptr, len_slice, len_str, len_arr, nil_check, nil_check_f, callTo_func, pick_true, pick_false, cells_agg, cells_int, cells_ptr, cells_slice, cells_bool, cells_str, push_box, getT_zero, getT_succ, List.getElem?_cons_zero, List.getElem?_cons_succ, List.cons_append, List.nil_append, Bool.not_true, Bool.not_false, ne_eq, not_true_eq_false, decide_false, decide_true, not_false_eq_true, Nat.add_zero, Nat.zero_add, new_box, fill_box1, fill_box1s, fill_box1p, fill_box1b, ↓reduceIte, List.all_cons, List.all_nil, Bool.and_true, Bool.and_self, one_int, one_ptr, one_slice, one_bool, one_str, one_nil, one_iface, List.length_cons, List.length_nil, boolK_pos, boolK_neg, boolK_npos, boolK_nneg, wrap_i64, wrap_u64, wrap_u8, wrap_u32, pick_pos, pick_neg, bin_quo_nn, bin_rem_nn, bin_shr1, build105, ho]
    try rfl
  · simp (disch := omega) only [bindS, boolKT, boolKF, natK0, natK1, natK2, natK3, natKS, chkKT, bin_add, bin_sub, bin_mul, bin_eql, bin_neq, bin_lss, bin_leq, bin_gtr, bin_geq, un_not, un_neg, conv_int, min_op, max_op, extract_nth, load_one, load_agg, agg_some, field_ptr, len_slice, len_str, len_arr, nil_check, nil_check_f, callTo_func, pick_true, pick_false, cells_agg, cells_int, cells_ptr, cells_slice, cells_bool, cells_str, push_box, getT_zero, getT_succ, List.getElem?_cons_zero, List.getElem?_cons_succ, List.cons_append, List.nil_append, Bool.not_true, Bool.not_false, ne_eq, not_true_eq_false, decide_false, decide_true, not_false_eq_true, Nat.add_zero, Nat.zero_add, new_box, fill_box1, fill_box1s, fill_box1p, fill_box1b, ↓reduceIte, List.all_cons, List.all_nil, Bool.and_true, Bool.and_self, one_int, one_ptr, one_slice, one_bool, one_str, one_nil, one_iface, List.length_cons, List.length_nil, boolK_pos, boolK_neg, boolK_npos, boolK_nneg, wrap_i64, wrap_u64, wrap_u8, wrap_u32, pick_pos, pick_neg, bin_quo_nn, bin_rem_nn, bin_shr1, build105, ho]
    try rfl

theorem s16 {m : Nat} (hm : 1 ≤ m) {H : AHeap} {b : Nat} {c : Chan} (h : Has H b (.cells c.cells)) : ttD m 16 [.pointer (some ⟨b, 0, none⟩)] H = some (.int .i64 c.kind, H) := by
  obtain ⟨m, rfl⟩ : ∃ k, m = k + 1 := ⟨m - 1, by omega⟩
  refine ttD16 ?_
  unfold tt16
  simp only [bindS, boolKT, boolKF, natK0, natK1, natK2, natK3, natKS, chkKT, bin_add, bin_sub, bin_mul, bin_eql, bin_neq, bin_lss, bin_leq, bin_gtr, bin_geq, un_not, un_neg, conv_int, min_op, max_op, extract_nth, load_one, load_agg, agg_some, field_ptr, len_slice, len_str, len_arr, nil_check, nil_check_f, callTo_func, pick_true, pick_false, cells_agg, cells_int, cells_ptr, cells_slice, cells_bool, cells_str, push_box, getT_zero, getT_succ, List.getElem?_cons_zero, List.getElem?_cons_succ, List.cons_append, List.nil_append, Bool.not_true, Bool.not_false, ne_eq, not_true_eq_false, decide_false, decide_true, not_false_eq_true, Nat.add_zero, Nat.zero_add, new_box, fill_box1, fill_box1s, fill_box1p, fill_box1b, ↓reduceIte, List.all_cons, List.all_nil, Bool.and_true, Bool.and_self, one_int, one_ptr, one_slice, one_bool, one_str, one_nil, one_iface, List.length_cons, List.length_nil, boolK_pos, boolK_neg, boolK_npos, boolK_nneg, wrap_i64, wrap_u64, wrap_u8, wrap_u32, pick_pos, pick_neg, bin_quo_nn, bin_rem_nn, bin_shr1, cell_at h.row, c.c0]
theorem s22 {m : Nat} (hm : 1 ≤ m) {H : AHeap} {b : Nat} {c : Chan} (h : Has H b (.cells c.cells)) (hr : c.ring.length = 16) : ttD m 22 [.pointer (some ⟨b, 0, none⟩)] H = some (.int .i64 c.n, H) := by
  obtain ⟨m, rfl⟩ : ∃ k, m = k + 1 := ⟨m - 1, by omega⟩
  refine ttD22 ?_
  unfold tt22
  simp only [bindS, boolKT, boolKF, natK0, natK1, natK2, natK3, natKS, chkKT, bin_add, bin_sub, bin_mul, bin_eql, bin_neq, bin_lss, bin_leq, bin_gtr, bin_geq, un_not, un_neg, conv_int, min_op, max_op, extract_nth, load_one, load_agg, agg_some, field_ptr, len_slice, len_str, len_arr, nil_check, nil_check_f, callTo_func, pick_true, pick_false, cells_agg, cells_int, cells_ptr, cells_slice, cells_bool, cells_str, push_box, getT_zero, getT_succ, List.getElem?_cons_zero, List.getElem?_cons_succ, List.cons_append, List.nil_append, Bool.not_true, Bool.not_false, ne_eq, not_true_eq_false, decide_false, decide_true, not_false_eq_true, Nat.add_zero, Nat.zero_add, new_box, fill_box1, fill_box1s, fill_box1p, fill_box1b, ↓reduceIte, List.all_cons, List.all_nil, Bool.and_true, Bool.and_self, one_int, one_ptr, one_slice, one_bool, one_str, one_nil, one_iface, List.length_cons, List.length_nil, boolK_pos, boolK_neg, boolK_npos, boolK_nneg, wrap_i64, wrap_u64, wrap_u8, wrap_u32, pick_pos, pick_neg, bin_quo_nn, bin_rem_nn, bin_shr1, cell_at h.row, c.c1060 hr]
theorem s23 {m : Nat} (hm : 1 ≤ m) {H : AHeap} {b : Nat} {c : Chan} (h : Has H b (.cells c.cells)) (hr : c.ring.length = 16) : ttD m 23 [.pointer (some ⟨b, 0, none⟩)] H = some (.int .u64 c.lost, H) := by
  obtain ⟨m, rfl⟩ : ∃ k, m = k + 1 := ⟨m - 1, by omega⟩
  refine ttD23 ?_
  unfold tt23
  simp only [bindS, boolKT, boolKF, natK0, natK1, natK2, natK3, natKS, chkKT, bin_add, bin_sub, bin_mul, bin_eql, bin_neq, bin_lss, bin_leq, bin_gtr, bin_geq, un_not, un_neg, conv_int, min_op, max_op, extract_nth, load_one, load_agg, agg_some, field_ptr, len_slice, len_str, len_arr, nil_check, nil_check_f, callTo_func, pick_true, pick_false, cells_agg, cells_int, cells_ptr, cells_slice, cells_bool, cells_str, push_box, getT_zero, getT_succ, List.getElem?_cons_zero, List.getElem?_cons_succ, List.cons_append, List.nil_append, Bool.not_true, Bool.not_false, ne_eq, not_true_eq_false, decide_false, decide_true, not_false_eq_true, Nat.add_zero, Nat.zero_add, new_box, fill_box1, fill_box1s, fill_box1p, fill_box1b, ↓reduceIte, List.all_cons, List.all_nil, Bool.and_true, Bool.and_self, one_int, one_ptr, one_slice, one_bool, one_str, one_nil, one_iface, List.length_cons, List.length_nil, boolK_pos, boolK_neg, boolK_npos, boolK_nneg, wrap_i64, wrap_u64, wrap_u8, wrap_u32, pick_pos, pick_neg, bin_quo_nn, bin_rem_nn, bin_shr1, cell_at h.row, c.c1061 hr]
theorem s20 {m : Nat} (hm : 1 ≤ m) {H : AHeap} {b : Nat} {c : Chan} (h : Has H b (.cells c.cells)) (hr : c.ring.length = 16) :
    ttD m 20 [.pointer (some ⟨b, 0, none⟩)] H = some (.pointer (some ⟨H.next, 0, none⟩), boxed H (zeroC Tryz.prog 105) c.cells) := by
  obtain ⟨m, rfl⟩ : ∃ k, m = k + 1 := ⟨m - 1, by omega⟩
  refine ttD20 ?_
  unfold tt20
  have hz : (zeroC Tryz.prog 105).length = 1062 := by rw [zero105]; exact Chan.len (c := ⟨0, 0, 0, List.replicate 16 zMsg, 0, 0, 0⟩) (by simp)
  have hl := c.len hr
  simp only [bindS, boolKT, boolKF, natK0, natK1, natK2, natK3, natKS, chkKT, bin_add, bin_sub, bin_mul, bin_eql, bin_neq, bin_lss, bin_leq, bin_gtr, bin_geq, un_not, un_neg, conv_int, min_op, max_op, extract_nth, load_one, load_agg, agg_some, field_ptr, len_slice, len_str, len_arr, nil_check, nil_check_f, callTo_func, pick_true, pick_false, cells_agg, cells_int, cells_ptr, cells_slice, cells_bool, cells_str, push_box, getT_zero, getT_succ, List.getElem?_cons_zero, List.getElem?_cons_succ, List.cons_append, List.nil_append, Bool.not_true, Bool.not_false, ne_eq, not_true_eq_false, decide_false, decide_true, not_false_eq_true, Nat.add_zero, Nat.zero_add, new_box, fill_box1, fill_box1s, fill_box1p, fill_box1b, ↓reduceIte, List.all_cons, List.all_nil, Bool.and_true, Bool.and_self, one_int, one_ptr, one_slice, one_bool, one_str, one_nil, one_iface, List.length_cons, List.length_nil, boolK_pos, boolK_neg, boolK_npos, boolK_nneg, wrap_i64, wrap_u64, wrap_u8, wrap_u32, pick_pos, pick_neg, bin_quo_nn, bin_rem_nn, bin_shr1, cells_at h.row (o := 0) (n := 1062) (by omega), List.drop_zero]
  rw [List.take_of_length_le (by omega), fill_box _ _ _ _ (by simp [hz, hl, c.one])]
  try rfl


/-! ## Bytes in memory -/

def bcell (x : Int) : List Value := [.int .u8 x]
theorem bcell_len (x : Int) : (bcell x).length = 1 := rfl
theorem bcells_flat (l : List Int) : l.flatMap bcell = bcells l := by
  induction l with
  | nil => rfl
  | cons x l ih => rw [List.flatMap_cons, ih]; rfl
theorem bcells_len (l : List Int) : (bcells l).length = l.length := by simp [bcells]
theorem bcells_one (l : List Int) : (bcells l).all oneCell = true := by simp only [bcells, List.all_map]; exact List.all_eq_true.2 fun x _ => rfl

theorem copy_bytes {H : AHeap} {x o : Nat} {l : List Value} (h : Has H x (.cells l)) {k : Nat} (hl : o + k ≤ l.length) {v : Value} {bs : List Int} (hs : Sl H v 1 bcell bs) (hb : bs.length ≤ k) :
    ∃ H', copyA (some (1, 1)) (.slice (some ⟨x, o, none⟩) k 1) v H = some (.int .i64 bs.length, H') ∧ Has H' x (.cells (splice l o (bcells bs))) ∧ Mod (· = x) H H' := by
  rcases hs with ⟨rfl, rfl⟩ | ⟨b, o', c, rfl, h2, h3, h4⟩
  · refine ⟨H, rfl, ?_, Mod.refl⟩
    have : splice l o (bcells []) = l := by rw [splice_eq _ _ _ (by simp [bcells]; omega)]; simp [bcells]
    rw [this]; exact h
  · have hc : H.cells ⟨b, o', none⟩ (min bs.length k * 1) = some (bcells bs) := by
      rw [Nat.min_eq_left hb, cells_at h2 h3, h4, bcells_flat]
    have hst : H.store ⟨x, o, none⟩ (bcells bs) = some (H.set x (some (.cells (splice l o (bcells bs))))) := store_at h (by rw [bcells_len]; omega) (bcells_one bs)
    refine ⟨H.set x (some (.cells (splice l o (bcells bs)))), ?_, h.setEq _, Mod.set (F := (· = x)) rfl _⟩
    simp only [copyA, Option.isNone_some, Nat_beq_eq', decide_true, Bool.or_true, Nat.min_eq_left hb]
    rw [Nat.min_eq_left hb] at hc
    rw [hc]
    simp only [copyTo, hst]
    try rfl

theorem slice_arr {H : AHeap} {b o k n : Nat} {c : List Value} (h : Row H b c) (hl : o + k * n ≤ c.length) : sliceArr (some (some k, n)) (.pointer (some ⟨b, o, none⟩)) none none none H = some (.slice (some ⟨b, o, none⟩) k n) := by
  simp only [sliceArr, cells_at h hl, boundA, cutRow, Nat_ble_eq, Nat.zero_le, decide_true, Nat.le_refl, Nat.zero_mul, Nat.add_zero, Nat.sub_zero]
theorem slice_arr_hi {H : AHeap} {b o k n j : Nat} {c : List Value} (h : Row H b c) (hl : o + k * n ≤ c.length) (hj : j ≤ k) : sliceArr (some (some k, n)) (.pointer (some ⟨b, o, none⟩)) none (some (.int .i64 (j : Int))) none H = some (.slice (some ⟨b, o, none⟩) j n) := by
  show (match H.cells ⟨b, o, none⟩ (k * n) with | some _ => cutRow (some ⟨b, o, none⟩) k n (some 0) (some j) | none => none) = _
  simp only [cells_at h hl, cutRow, Nat_ble_eq, Nat.zero_le, decide_true, hj, Nat.zero_mul, Nat.add_zero, Nat.sub_zero]

/-- The bytes of a message that was laid. -/
theorem pad_cells (bs : List Int) (hb : bs.length ≤ 64) (t : Int) : splice (mcells ⟨List.replicate 64 0, List.length_replicate, bs.length, t⟩) 0 (bcells bs) = mcells (padMsg bs t) := by
  rw [splice_eq _ _ _ (by rw [mcells_len, bcells_len]; omega)]
  simp only [mcells, padMsg, bcells_len, List.take_zero, List.nil_append, Nat.zero_add]
  rw [List.drop_append, List.take_append, List.take_of_length_le hb]
  simp only [bcells, List.map_append, List.length_map, List.length_replicate, ← List.map_drop, List.drop_replicate, List.take_replicate]
  rw [show bs.length - 64 = 0 by omega, Nat.min_eq_left (show 64 - bs.length ≤ 64 by omega)]
  simp
theorem pad_take (bs : List Int) (hb : bs.length ≤ 64) (t : Int) : (padMsg bs t).b.take bs.length = bs := by
  simp only [padMsg, List.take_take, Nat.min_eq_left hb]
  simp

/-! ## Send -/

/-- What a send comes to, on paper: the error, the row, how many were lost. -/
def sendP (kind most size : Int) (q : Queue) (lost : Int) (bs : List Int) (t : Int) : Int × Queue × Int :=
  if size < bs.length then (1, q, lost)
  else if kind = 0 then (0, [(bs, t)], lost)
  else if (q.length : Int) = most then (if kind = 1 then (5, q, lost) else (0, q, lost + 1))
  else (0, q ++ [(bs, t)], lost)

/-- It is laid behind the others. -/
theorem lays19 {m : Nat} {H : AHeap} {b : Nat} {c : Chan} {q : Queue} (h : Has H b (.cells c.cells)) (hq : QOk c q) (hn : q.length < 16) (hne : (c.n : Int) ≠ c.most) {v : Value} {bs : List Int} (hv : Sl H v 1 bcell bs) (hb : bs.length ≤ 64) (t : Int) :
    ∃ H' c', tt19j53 (ttD m) (.pointer (some ⟨b, 0, none⟩)) v (.int .u64 t) H = some (.int .i64 0, H') ∧ Has H' b (.cells c'.cells) ∧ QOk c' (q ++ [(bs, t)]) ∧ Mod (· = b) H H' ∧ c'.kind = c.kind ∧ c'.most = c.most ∧ c'.size = c.size ∧ c'.lost = c.lost := by
  have hr := hq.1
  have hf := hq.2.1
  have hcn := hq.2.2.1
  have hlt := h.1
  generalize hm0 : (⟨List.replicate 64 0, List.length_replicate, bs.length, t⟩ : Msg) = m0
  have hfb := fill_box H (mcells zMsg) (mcells m0) 66 (by rw [mcells_one]; simp [mcells_len])
  have x1 := ext_boxed H (mcells zMsg) (mcells m0)
  have hx := has_boxed H (mcells zMsg) (mcells m0)
  have h1 := h.ext x1
  obtain ⟨H2, ec, hx2, md2⟩ := copy_bytes hx (o := 0) (k := 64) (by rw [mcells_len]; omega) (hv.ext x1) hb
  rw [← hm0, pad_cells bs hb t] at hx2
  have h2 : Has H2 b (.cells c.cells) := h1.mod md2 (by omega)
  have hi : (c.first + c.n) % 16 < 16 := Nat.mod_lt _ (by omega)
  have hst := store_aggs (n := 66) h2 (o := 3 + (c.first + c.n) % 16 * 66) (vs := mcells (padMsg bs t)) (mcells_len _) (by rw [mcells_len, c.len hr]; omega) (mcells_one _)
  rw [Chan.splice hr hi] at hst
  generalize hH3 : H2.set b (some (.cells { c with ring := c.ring.set ((c.first + c.n) % 16) (padMsg bs t) }.cells)) = H3 at *
  have h3 : Has H3 b (.cells { c with ring := c.ring.set ((c.first + c.n) % 16) (padMsg bs t) }.cells) := by rw [← hH3]; exact h2.setEq _
  have hr3 : ({ c with ring := c.ring.set ((c.first + c.n) % 16) (padMsg bs t) } : Chan).ring.length = 16 := by simp [hr]
  have hst2 := store_one h3 (o := 1060) (by rw [Chan.len hr3]; omega) (v := .int .i64 ((c.n + 1 : Nat) : Int)) rfl rfl
  rw [Chan.set1060 hr3] at hst2
  refine ⟨H3.set b (some (.cells { c with ring := c.ring.set ((c.first + c.n) % 16) (padMsg bs t), n := c.n + 1 }.cells)), _, ?_, h3.setEq _, hq.push hn hb t, ?_, rfl, rfl, rfl, rfl⟩
  · unfold tt19j53
    have hmx := cells_all (n := 66) hx2.row (mcells_len _)
    rw [zero102]
    simp (disch := omega) only [bindS, boolKT, boolKF, natK0, natK1, natK2, natK3, natKS, chkKT, bin_add, bin_sub, bin_mul, bin_eql, bin_neq, bin_lss, bin_leq, bin_gtr, bin_geq, un_not, un_neg, conv_int, min_op, max_op, extract_nth, load_one, load_agg, agg_some, field_ptr, len_slice, len_str, len_arr, nil_check, nil_check_f, callTo_func, pick_true, pick_false, cells_agg, cells_int, cells_ptr, cells_slice, cells_bool, cells_str, push_box, getT_zero, getT_succ, List.getElem?_cons_zero, List.getElem?_cons_succ, List.cons_append, List.nil_append, Bool.not_true, Bool.not_false, ne_eq, not_true_eq_false, decide_false, decide_true, not_false_eq_true, Nat.add_zero, Nat.zero_add, new_box, fill_box1, fill_box1s, fill_box1p, fill_box1b, ↓reduceIte, List.all_cons, List.all_nil, Bool.and_true, Bool.and_self, one_int, one_ptr, one_slice, one_bool, one_str, one_nil, one_iface, List.length_cons, List.length_nil, boolK_pos, boolK_neg, boolK_npos, boolK_nneg, wrap_i64, wrap_u64, wrap_u8, wrap_u32, pick_pos, pick_neg, bin_quo_nn, bin_rem_nn, bin_shr1, cell_at h.row, c.c1060 hr, c.c1, hv.len, build102s, hm0, hfb, slice_arr hx.row (o := 0) (k := 64) (n := 1) (by rw [mcells_len]; omega), ec, cell_at h2.row, c.c1059 hr, hmx]
    rw [show ((c.first : Int) + c.n) % 16 = (((c.first + c.n) % 16 : Nat) : Int) by omega, index_array (by omega) (by omega)]
    simp (disch := omega) only [bindS, boolKT, boolKF, natK0, natK1, natK2, natK3, natKS, chkKT, bin_add, bin_sub, bin_mul, bin_eql, bin_neq, bin_lss, bin_leq, bin_gtr, bin_geq, un_not, un_neg, conv_int, min_op, max_op, extract_nth, load_one, load_agg, agg_some, field_ptr, len_slice, len_str, len_arr, nil_check, nil_check_f, callTo_func, pick_true, pick_false, cells_agg, cells_int, cells_ptr, cells_slice, cells_bool, cells_str, push_box, getT_zero, getT_succ, List.getElem?_cons_zero, List.getElem?_cons_succ, List.cons_append, List.nil_append, Bool.not_true, Bool.not_false, ne_eq, not_true_eq_false, decide_false, decide_true, not_false_eq_true, Nat.add_zero, Nat.zero_add, new_box, fill_box1, fill_box1s, fill_box1p, fill_box1b, ↓reduceIte, List.all_cons, List.all_nil, Bool.and_true, Bool.and_self, one_int, one_ptr, one_slice, one_bool, one_str, one_nil, one_iface, List.length_cons, List.length_nil, boolK_pos, boolK_neg, boolK_npos, boolK_nneg, wrap_i64, wrap_u64, wrap_u8, wrap_u32, pick_pos, pick_neg, bin_quo_nn, bin_rem_nn, bin_shr1, Int.toNat_natCast, hst, cell_at h3.row, Chan.c1060 hr3]
    rw [show ((c.n : Int) + 1) = ((c.n + 1 : Nat) : Int) by omega, hst2]
    rfl
  · rw [← hH3]
    exact ((x1.mod.trans (md2.mono (G := fun y => y = b ∨ H.next ≤ y) fun y _ hy => by omega)).trans ((Mod.set (F := fun y => y = b ∨ H.next ≤ y) (.inl rfl) _).trans (Mod.set (F := fun y => y = b ∨ H.next ≤ y) (.inl rfl) _))).mono fun y hy hF => by omega


theorem s19 {m : Nat} (hm : 1 ≤ m) {H : AHeap} {b : Nat} {c : Chan} {q : Queue} (h : Has H b (.cells c.cells)) (hq : QOk c q) (hm1 : 1 ≤ c.most) (hm2 : c.most ≤ 16) (hle : (q.length : Int) ≤ c.most) (hs : c.size ≤ 64) (hk0 : c.kind = 0 → c.most = 1)
    (hl0 : 0 ≤ c.lost) (hl1 : c.lost ≤ 1000) {v : Value} {bs : List Int} (hv : Sl H v 1 bcell bs) (hvb : ∀ x, vblk v = some x → x ≠ b) (t : Int) :
    ∃ H' c', ttD m 19 [.pointer (some ⟨b, 0, none⟩), v, .int .u64 t] H = some (.int .i64 (sendP c.kind c.most c.size q c.lost bs t).1, H') ∧ Has H' b (.cells c'.cells) ∧ QOk c' (sendP c.kind c.most c.size q c.lost bs t).2.1 ∧ Mod (· = b) H H' ∧
      c'.kind = c.kind ∧ c'.most = c.most ∧ c'.size = c.size ∧ c'.lost = (sendP c.kind c.most c.size q c.lost bs t).2.2 := by
  obtain ⟨m, rfl⟩ : ∃ k, m = k + 1 := ⟨m - 1, by omega⟩
  have hr := hq.1
  have hcn := hq.2.2.1
  unfold sendP
  by_cases hbig : c.size < bs.length
  · simp only [if_pos hbig]
    refine ⟨H, c, ttD19 ?_, h, hq, Mod.refl, rfl, rfl, rfl, rfl⟩
    unfold tt19
    simp (disch := omega) only [bindS, boolKT, boolKF, natK0, natK1, natK2, natK3, natKS, chkKT, bin_add, bin_sub, bin_mul, bin_eql, bin_neq, bin_lss, bin_leq, bin_gtr, bin_geq, un_not, un_neg, conv_int, min_op, max_op, extract_nth, load_one, load_agg, agg_some, field_ptr, len_slice, len_str, len_arr, nil_check, nil_check_f, callTo_func, pick_true, pick_false, cells_agg, cells_int, cells_ptr, cells_slice, cells_bool, cells_str, push_box, getT_zero, getT_succ, List.getElem?_cons_zero, List.getElem?_cons_succ, List.cons_append, List.nil_append, Bool.not_true, Bool.not_false, ne_eq, not_true_eq_false, decide_false, decide_true, not_false_eq_true, Nat.add_zero, Nat.zero_add, new_box, fill_box1, fill_box1s, fill_box1p, fill_box1b, ↓reduceIte, List.all_cons, List.all_nil, Bool.and_true, Bool.and_self, one_int, one_ptr, one_slice, one_bool, one_str, one_nil, one_iface, List.length_cons, List.length_nil, boolK_pos, boolK_neg, boolK_npos, boolK_nneg, wrap_i64, wrap_u64, wrap_u8, wrap_u32, pick_pos, pick_neg, bin_quo_nn, bin_rem_nn, bin_shr1, cell_at h.row, c.c2, hv.len]
  · simp only [if_neg hbig]
    by_cases hk : c.kind = 0
    · simp only [if_pos hk]
      have hmost := hk0 hk
      have hst := store_one h (o := 1060) (by rw [c.len hr]; omega) (v := .int .i64 ((0 : Nat) : Int)) rfl rfl
      rw [Chan.set1060 hr] at hst
      have h0 := h.setEq (.cells ({ c with n := 0 } : Chan).cells)
      obtain ⟨H', c', e, g1, g2, g3, g4, g5, g6, g7⟩ := lays19 (m := m) h0 hq.empty (by simp) (by simp [hmost]) (hv.mod (Mod.set (F := (· = b)) rfl _) hvb) (by omega) t
      refine ⟨H', c', ttD19 ?_, g1, g2, (Mod.set (F := (· = b)) rfl _).trans g3, g4, g5, g6, g7⟩
      unfold tt19
      have hst' : storeA (some 1) (.pointer (some ⟨b, 1060, none⟩)) (.int .i64 0) H = some (undef, H.set b (some (.cells ({ c with n := 0 } : Chan).cells))) := hst
      simp (disch := omega) only [bindS, boolKT, boolKF, natK0, natK1, natK2, natK3, natKS, chkKT, bin_add, bin_sub, bin_mul, bin_eql, bin_neq, bin_lss, bin_leq, bin_gtr, bin_geq, un_not, un_neg, conv_int, min_op, max_op, extract_nth, load_one, load_agg, agg_some, field_ptr, len_slice, len_str, len_arr, nil_check, nil_check_f, callTo_func, pick_true, pick_false, cells_agg, cells_int, cells_ptr, cells_slice, cells_bool, cells_str, push_box, getT_zero, getT_succ, List.getElem?_cons_zero, List.getElem?_cons_succ, List.cons_append, List.nil_append, Bool.not_true, Bool.not_false, ne_eq, not_true_eq_false, decide_false, decide_true, not_false_eq_true, Nat.add_zero, Nat.zero_add, new_box, fill_box1, fill_box1s, fill_box1p, fill_box1b, ↓reduceIte, List.all_cons, List.all_nil, Bool.and_true, Bool.and_self, one_int, one_ptr, one_slice, one_bool, one_str, one_nil, one_iface, List.length_cons, List.length_nil, boolK_pos, boolK_neg, boolK_npos, boolK_nneg, wrap_i64, wrap_u64, wrap_u8, wrap_u32, pick_pos, pick_neg, bin_quo_nn, bin_rem_nn, bin_shr1, cell_at h.row, c.c2, c.c0, hv.len, hst', e]
    · simp only [if_neg hk]
      by_cases hfull : (q.length : Int) = c.most
      · simp only [if_pos hfull]
        by_cases hk1 : c.kind = 1
        · simp only [if_pos hk1]
          refine ⟨H, c, ttD19 ?_, h, hq, Mod.refl, rfl, rfl, rfl, rfl⟩
          unfold tt19 tt19j53
          simp (disch := omega) only [bindS, boolKT, boolKF, natK0, natK1, natK2, natK3, natKS, chkKT, bin_add, bin_sub, bin_mul, bin_eql, bin_neq, bin_lss, bin_leq, bin_gtr, bin_geq, un_not, un_neg, conv_int, min_op, max_op, extract_nth, load_one, load_agg, agg_some, field_ptr, len_slice, len_str, len_arr, nil_check, nil_check_f, callTo_func, pick_true, pick_false, cells_agg, cells_int, cells_ptr, cells_slice, cells_bool, cells_str, push_box, getT_zero, getT_succ, List.getElem?_cons_zero, List.getElem?_cons_succ, List.cons_append, List.nil_append, Bool.not_true, Bool.not_false, ne_eq, not_true_eq_false, decide_false, decide_true, not_false_eq_true, Nat.add_zero, Nat.zero_add, new_box, fill_box1, fill_box1s, fill_box1p, fill_box1b, ↓reduceIte, List.all_cons, List.all_nil, Bool.and_true, Bool.and_self, one_int, one_ptr, one_slice, one_bool, one_str, one_nil, one_iface, List.length_cons, List.length_nil, boolK_pos, boolK_neg, boolK_npos, boolK_nneg, wrap_i64, wrap_u64, wrap_u8, wrap_u32, pick_pos, pick_neg, bin_quo_nn, bin_rem_nn, bin_shr1, cell_at h.row, c.c2, c.c0, c.c1, c.c1060 hr, hv.len]
        · simp only [if_neg hk1]
          have hst := store_one h (o := 1061) (by rw [c.len hr]; omega) (v := .int .u64 (c.lost + 1)) rfl rfl
          rw [Chan.set1061 hr] at hst
          refine ⟨H.set b (some (.cells ({ c with lost := c.lost + 1 } : Chan).cells)), { c with lost := c.lost + 1 }, ttD19 ?_, h.setEq _, hq.lost _, Mod.set (F := (· = b)) rfl _, rfl, rfl, rfl, rfl⟩
          unfold tt19 tt19j53
          have hmax : max c.lost (c.lost + 1) = c.lost + 1 := by omega
          simp (disch := omega) only [bindS, boolKT, boolKF, natK0, natK1, natK2, natK3, natKS, chkKT, bin_add, bin_sub, bin_mul, bin_eql, bin_neq, bin_lss, bin_leq, bin_gtr, bin_geq, un_not, un_neg, conv_int, min_op, max_op, extract_nth, load_one, load_agg, agg_some, field_ptr, len_slice, len_str, len_arr, nil_check, nil_check_f, callTo_func, pick_true, pick_false, cells_agg, cells_int, cells_ptr, cells_slice, cells_bool, cells_str, push_box, getT_zero, getT_succ, List.getElem?_cons_zero, List.getElem?_cons_succ, List.cons_append, List.nil_append, Bool.not_true, Bool.not_false, ne_eq, not_true_eq_false, decide_false, decide_true, not_false_eq_true, Nat.add_zero, Nat.zero_add, new_box, fill_box1, fill_box1s, fill_box1p, fill_box1b, ↓reduceIte, List.all_cons, List.all_nil, Bool.and_true, Bool.and_self, one_int, one_ptr, one_slice, one_bool, one_str, one_nil, one_iface, List.length_cons, List.length_nil, boolK_pos, boolK_neg, boolK_npos, boolK_nneg, wrap_i64, wrap_u64, wrap_u8, wrap_u32, pick_pos, pick_neg, bin_quo_nn, bin_rem_nn, bin_shr1, cell_at h.row, c.c2, c.c0, c.c1, c.c1060 hr, c.c1061 hr, hv.len, hmax, hst]
      · simp only [if_neg hfull]
        obtain ⟨H', c', e, g1, g2, g3, g4, g5, g6, g7⟩ := lays19 (m := m) h hq (by omega) (by omega) hv (by omega) t
        refine ⟨H', c', ttD19 ?_, g1, g2, g3, g4, g5, g6, g7⟩
        unfold tt19
        simp (disch := omega) only [bindS, boolKT, boolKF, natK0, natK1, natK2, natK3, natKS, chkKT, bin_add, bin_sub, bin_mul, bin_eql, bin_neq, bin_lss, bin_leq, bin_gtr, bin_geq, un_not, un_neg, conv_int, min_op, max_op, extract_nth, load_one, load_agg, agg_some, field_ptr, len_slice, len_str, len_arr, nil_check, nil_check_f, callTo_func, pick_true, pick_false, cells_agg, cells_int, cells_ptr, cells_slice, cells_bool, cells_str, push_box, getT_zero, getT_succ, List.getElem?_cons_zero, List.getElem?_cons_succ, List.cons_append, List.nil_append, Bool.not_true, Bool.not_false, ne_eq, not_true_eq_false, decide_false, decide_true, not_false_eq_true, Nat.add_zero, Nat.zero_add, new_box, fill_box1, fill_box1s, fill_box1p, fill_box1b, ↓reduceIte, List.all_cons, List.all_nil, Bool.and_true, Bool.and_self, one_int, one_ptr, one_slice, one_bool, one_str, one_nil, one_iface, List.length_cons, List.length_nil, boolK_pos, boolK_neg, boolK_npos, boolK_nneg, wrap_i64, wrap_u64, wrap_u8, wrap_u32, pick_pos, pick_neg, bin_quo_nn, bin_rem_nn, bin_shr1, cell_at h.row, c.c2, c.c0, hv.len, e]


/-! ## Receive -/

theorem bcell_one (x : Int) : (bcell x).all oneCell = true := rfl

/-- A message's bytes, and its age. -/
theorem gets21 {m : Nat} {H : AHeap} {x : Nat} {bs : List Int} {t : Int} (h : Row H x (mcells (padMsg bs t))) (hb : bs.length ≤ 64) {now : Int} (hn : InU now) (ht : InU t) :
    ∃ v H', tt21j33 (ttD m) (.int .u64 now) (.pointer (some ⟨x, 0, none⟩)) H = some (.tuple [v, .int .u64 (if t < now then now - t else 0), .int .i64 0].toArray, H') ∧ Sl H' v 1 bcell bs ∧ Ext H H' ∧ (∀ y, vblk v = some y → H.next ≤ y) := by
  obtain ⟨hn1, hn2⟩ := hn
  obtain ⟨ht1, ht2⟩ := ht
  have c64 : (mcells (padMsg bs t))[64]? = some (.int .i64 bs.length) := by
    simp only [mcells]
    rw [List.getElem?_append_right (by rw [bcells_len, (padMsg bs t).hb]; omega), bcells_len, (padMsg bs t).hb]; rfl
  have c65 : (mcells (padMsg bs t))[65]? = some (.int .u64 t) := by
    simp only [mcells]
    rw [List.getElem?_append_right (by rw [bcells_len, (padMsg bs t).hb]; omega), bcells_len, (padMsg bs t).hb]; rfl
  have hsl : Sl H (.slice (some ⟨x, 0, none⟩) bs.length 1) 1 bcell bs := by
    refine .inr ⟨x, 0, _, rfl, h, by rw [mcells_len]; omega, ?_⟩
    rw [bcells_flat, List.drop_zero, Nat.mul_one]
    simp only [mcells]
    rw [List.take_append_of_le_length (by rw [bcells_len, (padMsg bs t).hb]; exact hb)]
    simp only [bcells]
    rw [← List.map_take, pad_take bs hb t]
  obtain ⟨v, H', e, g1, g2, g3, _⟩ := append_own (w := 1) (by omega) bcell_len bcell_one (Own.nil H 1 bcell) hsl (by simp; omega) (by simp; omega)
  have hcut := slice_arr_hi (H := H) (b := x) (o := 0) (k := 64) (n := 1) (j := bs.length) h (by rw [mcells_len]; omega) hb
  refine ⟨v, H', ?_, by simpa using g1.sl, g2.mono (fun y _ hy => by simp [vblk] at hy), fun y hy => by rcases g3 y hy with h | h; exact h; simp [vblk] at h⟩
  unfold tt21j33
  by_cases hlt : t < now
  · rw [if_pos hlt]
    simp (disch := omega) only [bindS, boolKT, boolKF, natK0, natK1, natK2, natK3, natKS, chkKT, bin_add, bin_sub, bin_mul, bin_eql, bin_neq, bin_lss, bin_leq, bin_gtr, bin_geq, un_not, un_neg, conv_int, min_op, max_op, extract_nth, load_one, load_agg, agg_some, field_ptr, len_slice, len_str, len_arr, nil_check, nil_check_f, callTo_func, pick_true, pick_false, cells_agg, cells_int, cells_ptr, cells_slice, cells_bool, cells_str, push_box, getT_zero, getT_succ, List.getElem?_cons_zero, List.getElem?_cons_succ, List.cons_append, List.nil_append, Bool.not_true, Bool.not_false, ne_eq, not_true_eq_false, decide_false, decide_true, not_false_eq_true, Nat.add_zero, Nat.zero_add, new_box, fill_box1, fill_box1s, fill_box1p, fill_box1b, ↓reduceIte, List.all_cons, List.all_nil, Bool.and_true, Bool.and_self, one_int, one_ptr, one_slice, one_bool, one_str, one_nil, one_iface, List.length_cons, List.length_nil, boolK_pos, boolK_neg, boolK_npos, boolK_nneg, wrap_i64, wrap_u64, wrap_u8, wrap_u32, pick_pos, pick_neg, bin_quo_nn, bin_rem_nn, bin_shr1, cell_at h, c64, c65, hcut, e]
  · rw [if_neg hlt]
    simp (disch := omega) only [bindS, boolKT, boolKF, natK0, natK1, natK2, natK3, natKS, chkKT, bin_add, bin_sub, bin_mul, bin_eql, bin_neq, bin_lss, bin_leq, bin_gtr, bin_geq, un_not, un_neg, conv_int, min_op, max_op, extract_nth, load_one, load_agg, agg_some, field_ptr, len_slice, len_str, len_arr, nil_check, nil_check_f, callTo_func, pick_true, pick_false, cells_agg, cells_int, cells_ptr, cells_slice, cells_bool, cells_str, push_box, getT_zero, getT_succ, List.getElem?_cons_zero, List.getElem?_cons_succ, List.cons_append, List.nil_append, Bool.not_true, Bool.not_false, ne_eq, not_true_eq_false, decide_false, decide_true, not_false_eq_true, Nat.add_zero, Nat.zero_add, new_box, fill_box1, fill_box1s, fill_box1p, fill_box1b, ↓reduceIte, List.all_cons, List.all_nil, Bool.and_true, Bool.and_self, one_int, one_ptr, one_slice, one_bool, one_str, one_nil, one_iface, List.length_cons, List.length_nil, boolK_pos, boolK_neg, boolK_npos, boolK_nneg, wrap_i64, wrap_u64, wrap_u8, wrap_u32, pick_pos, pick_neg, bin_quo_nn, bin_rem_nn, bin_shr1, cell_at h, c64, c65, hcut, e]

theorem s21_none {m : Nat} (hm : 1 ≤ m) {H : AHeap} {b : Nat} {c : Chan} (h : Has H b (.cells c.cells)) (hq : QOk c []) (now : Int) :
    ttD m 21 [.pointer (some ⟨b, 0, none⟩), .int .u64 now] H = some (.tuple [.slice none 0 0, .int .u64 0, .int .i64 6].toArray, H) := by
  obtain ⟨m, rfl⟩ : ∃ k, m = k + 1 := ⟨m - 1, by omega⟩
  have hcn := hq.2.2.1
  simp only [List.length_nil] at hcn
  refine ttD21 ?_
  unfold tt21
  simp (disch := omega) only [bindS, boolKT, boolKF, natK0, natK1, natK2, natK3, natKS, chkKT, bin_add, bin_sub, bin_mul, bin_eql, bin_neq, bin_lss, bin_leq, bin_gtr, bin_geq, un_not, un_neg, conv_int, min_op, max_op, extract_nth, load_one, load_agg, agg_some, field_ptr, len_slice, len_str, len_arr, nil_check, nil_check_f, callTo_func, pick_true, pick_false, cells_agg, cells_int, cells_ptr, cells_slice, cells_bool, cells_str, push_box, getT_zero, getT_succ, List.getElem?_cons_zero, List.getElem?_cons_succ, List.cons_append, List.nil_append, Bool.not_true, Bool.not_false, ne_eq, not_true_eq_false, decide_false, decide_true, not_false_eq_true, Nat.add_zero, Nat.zero_add, new_box, fill_box1, fill_box1s, fill_box1p, fill_box1b, ↓reduceIte, List.all_cons, List.all_nil, Bool.and_true, Bool.and_self, one_int, one_ptr, one_slice, one_bool, one_str, one_nil, one_iface, List.length_cons, List.length_nil, boolK_pos, boolK_neg, boolK_npos, boolK_nneg, wrap_i64, wrap_u64, wrap_u8, wrap_u32, pick_pos, pick_neg, bin_quo_nn, bin_rem_nn, bin_shr1, cell_at h.row, c.c1060 hq.1, hcn]

/-- The row behind a receive. -/
def recvQ (kind : Int) (q : Queue) : Queue := if kind = 0 then q else q.tail

theorem s21 {m : Nat} (hm : 1 ≤ m) {H : AHeap} {b : Nat} {c : Chan} {bs : List Int} {t : Int} {q : Queue} (h : Has H b (.cells c.cells)) (hq : QOk c ((bs, t) :: q)) (hq16 : q.length < 16) {now : Int} (hn : InU now) (ht : InU t) :
    ∃ v H' c', ttD m 21 [.pointer (some ⟨b, 0, none⟩), .int .u64 now] H = some (.tuple [v, .int .u64 (if t < now then now - t else 0), .int .i64 0].toArray, H') ∧ Sl H' v 1 bcell bs ∧ Has H' b (.cells c'.cells) ∧ QOk c' (recvQ c.kind ((bs, t) :: q)) ∧ Mod (· = b) H H' ∧
      c'.kind = c.kind ∧ c'.most = c.most ∧ c'.size = c.size ∧ c'.lost = c.lost := by
  obtain ⟨m, rfl⟩ : ∃ k, m = k + 1 := ⟨m - 1, by omega⟩
  have hr := hq.1
  have hf := hq.2.1
  have hcn := hq.2.2.1
  simp only [List.length_cons] at hcn
  obtain ⟨hb, hmsg⟩ := hq.2.2.2 0 bs t rfl
  rw [Nat.add_zero, Nat.mod_eq_of_lt hf] at hmsg
  have hlt := h.1
  have hfb := fill_box H (mcells zMsg) (mcells (padMsg bs t)) 66 (by rw [mcells_one]; simp [mcells_len])
  have x1 := ext_boxed H (mcells zMsg) (mcells (padMsg bs t))
  have hx := has_boxed H (mcells zMsg) (mcells (padMsg bs t))
  have hload : H.cells ⟨b, 3 + c.first * 66, none⟩ 66 = some (mcells (padMsg bs t)) := by
    rw [cells_at h.row (by rw [c.len hr]; omega), c.at hr hmsg]
  have h1 := h.ext x1
  generalize hH1 : boxed H (mcells zMsg) (mcells (padMsg bs t)) = H1 at *
  unfold recvQ
  by_cases hk : c.kind = 0
  · rw [if_pos hk]
    obtain ⟨v, H', e, g1, g2, g3⟩ := gets21 (m := m) hx.row hb hn ht
    refine ⟨v, H', c, ttD21 ?_, g1, h1.ext g2, hq, Ext.mod (x1.trans g2), rfl, rfl, rfl, rfl⟩
    unfold tt21
    rw [zero102]
    simp (disch := omega) only [bindS, boolKT, boolKF, natK0, natK1, natK2, natK3, natKS, chkKT, bin_add, bin_sub, bin_mul, bin_eql, bin_neq, bin_lss, bin_leq, bin_gtr, bin_geq, un_not, un_neg, conv_int, min_op, max_op, extract_nth, load_one, load_agg, agg_some, field_ptr, len_slice, len_str, len_arr, nil_check, nil_check_f, callTo_func, pick_true, pick_false, cells_agg, cells_int, cells_ptr, cells_slice, cells_bool, cells_str, push_box, getT_zero, getT_succ, List.getElem?_cons_zero, List.getElem?_cons_succ, List.cons_append, List.nil_append, Bool.not_true, Bool.not_false, ne_eq, not_true_eq_false, decide_false, decide_true, not_false_eq_true, Nat.add_zero, Nat.zero_add, new_box, fill_box1, fill_box1s, fill_box1p, fill_box1b, ↓reduceIte, List.all_cons, List.all_nil, Bool.and_true, Bool.and_self, one_int, one_ptr, one_slice, one_bool, one_str, one_nil, one_iface, List.length_cons, List.length_nil, boolK_pos, boolK_neg, boolK_npos, boolK_nneg, wrap_i64, wrap_u64, wrap_u8, wrap_u32, pick_pos, pick_neg, bin_quo_nn, bin_rem_nn, bin_shr1, cell_at h.row, c.c1060 hr, c.c1059 hr, index_array, Int.toNat_natCast, hload, hfb, cell_at h1.row, c.c0, e]
  · rw [if_neg hk]
    have hst := store_aggs (n := 66) h1 (o := 3 + c.first * 66) (vs := mcells zMsg) (mcells_len _) (by rw [mcells_len, c.len hr]; omega) (mcells_one _)
    rw [Chan.splice hr hf] at hst
    generalize hH2 : H1.set b (some (.cells { c with ring := c.ring.set c.first zMsg }.cells)) = H2 at *
    have h2 : Has H2 b (.cells { c with ring := c.ring.set c.first zMsg }.cells) := by rw [← hH2]; exact h1.setEq _
    have hr2 : ({ c with ring := c.ring.set c.first zMsg } : Chan).ring.length = 16 := by simp [hr]
    have hst2 := store_one h2 (o := 1059) (by rw [Chan.len hr2]; omega) (v := .int .i64 (((c.first + 1) % 16 : Nat) : Int)) rfl rfl
    rw [Chan.set1059 hr2] at hst2
    generalize hH3 : H2.set b (some (.cells { c with ring := c.ring.set c.first zMsg, first := (c.first + 1) % 16 }.cells)) = H3 at *
    have h3 : Has H3 b (.cells { c with ring := c.ring.set c.first zMsg, first := (c.first + 1) % 16 }.cells) := by rw [← hH3]; exact h2.setEq _
    have hr3 : ({ c with ring := c.ring.set c.first zMsg, first := (c.first + 1) % 16 } : Chan).ring.length = 16 := by simp [hr]
    have hst3 := store_one h3 (o := 1060) (by rw [Chan.len hr3]; omega) (v := .int .i64 ((c.n - 1 : Nat) : Int)) rfl rfl
    rw [Chan.set1060 hr3] at hst3
    generalize hH4 : H3.set b (some (.cells { c with ring := c.ring.set c.first zMsg, first := (c.first + 1) % 16, n := c.n - 1 }.cells)) = H4 at *
    have h4 : Has H4 b (.cells { c with ring := c.ring.set c.first zMsg, first := (c.first + 1) % 16, n := c.n - 1 }.cells) := by rw [← hH4]; exact h3.setEq _
    have md : Mod (fun y => y = b) H1 H4 := by
      rw [← hH4, ← hH3, ← hH2]
      exact ((Mod.set (F := fun y => y = b) rfl _).trans (Mod.set (F := fun y => y = b) rfl _)).trans (Mod.set (F := fun y => y = b) rfl _)
    have hx4 := hx.mod md (by omega)
    obtain ⟨v, H', e, g1, g2, g3⟩ := gets21 (m := m) hx4.row hb hn ht
    refine ⟨v, H', _, ttD21 ?_, g1, h4.ext g2, hq.pop hq16 zMsg, ((x1.mod (F := (· = b))).trans md).trans g2.mod, rfl, rfl, rfl, rfl⟩
    unfold tt21
    rw [zero102]
    simp (disch := omega) only [bindS, boolKT, boolKF, natK0, natK1, natK2, natK3, natKS, chkKT, bin_add, bin_sub, bin_mul, bin_eql, bin_neq, bin_lss, bin_leq, bin_gtr, bin_geq, un_not, un_neg, conv_int, min_op, max_op, extract_nth, load_one, load_agg, agg_some, field_ptr, len_slice, len_str, len_arr, nil_check, nil_check_f, callTo_func, pick_true, pick_false, cells_agg, cells_int, cells_ptr, cells_slice, cells_bool, cells_str, push_box, getT_zero, getT_succ, List.getElem?_cons_zero, List.getElem?_cons_succ, List.cons_append, List.nil_append, Bool.not_true, Bool.not_false, ne_eq, not_true_eq_false, decide_false, decide_true, not_false_eq_true, Nat.add_zero, Nat.zero_add, new_box, fill_box1, fill_box1s, fill_box1p, fill_box1b, ↓reduceIte, List.all_cons, List.all_nil, Bool.and_true, Bool.and_self, one_int, one_ptr, one_slice, one_bool, one_str, one_nil, one_iface, List.length_cons, List.length_nil, boolK_pos, boolK_neg, boolK_npos, boolK_nneg, wrap_i64, wrap_u64, wrap_u8, wrap_u32, pick_pos, pick_neg, bin_quo_nn, bin_rem_nn, bin_shr1, cell_at h.row, c.c1060 hr, c.c1059 hr, index_array, Int.toNat_natCast, hload, hfb, cell_at h1.row, c.c0, build102, hst, cell_at h2.row, Chan.c1059 hr2]
    rw [show ((c.first : Int) + 1) % 16 = (((c.first + 1) % 16 : Nat) : Int) by omega]
    simp (disch := omega) only [bindS, boolKT, boolKF, natK0, natK1, natK2, natK3, natKS, chkKT, bin_add, bin_sub, bin_mul, bin_eql, bin_neq, bin_lss, bin_leq, bin_gtr, bin_geq, un_not, un_neg, conv_int, min_op, max_op, extract_nth, load_one, load_agg, agg_some, field_ptr, len_slice, len_str, len_arr, nil_check, nil_check_f, callTo_func, pick_true, pick_false, cells_agg, cells_int, cells_ptr, cells_slice, cells_bool, cells_str, push_box, getT_zero, getT_succ, List.getElem?_cons_zero, List.getElem?_cons_succ, List.cons_append, List.nil_append, Bool.not_true, Bool.not_false, ne_eq, not_true_eq_false, decide_false, decide_true, not_false_eq_true, Nat.add_zero, Nat.zero_add, new_box, fill_box1, fill_box1s, fill_box1p, fill_box1b, ↓reduceIte, List.all_cons, List.all_nil, Bool.and_true, Bool.and_self, one_int, one_ptr, one_slice, one_bool, one_str, one_nil, one_iface, List.length_cons, List.length_nil, boolK_pos, boolK_neg, boolK_npos, boolK_nneg, wrap_i64, wrap_u64, wrap_u8, wrap_u32, pick_pos, pick_neg, bin_quo_nn, bin_rem_nn, bin_shr1, hst2, cell_at h3.row, Chan.c1060 hr3]
    rw [show ((c.n : Int) - 1) = ((c.n - 1 : Nat) : Int) by omega]
    simp (disch := omega) only [bindS, boolKT, boolKF, natK0, natK1, natK2, natK3, natKS, chkKT, bin_add, bin_sub, bin_mul, bin_eql, bin_neq, bin_lss, bin_leq, bin_gtr, bin_geq, un_not, un_neg, conv_int, min_op, max_op, extract_nth, load_one, load_agg, agg_some, field_ptr, len_slice, len_str, len_arr, nil_check, nil_check_f, callTo_func, pick_true, pick_false, cells_agg, cells_int, cells_ptr, cells_slice, cells_bool, cells_str, push_box, getT_zero, getT_succ, List.getElem?_cons_zero, List.getElem?_cons_succ, List.cons_append, List.nil_append, Bool.not_true, Bool.not_false, ne_eq, not_true_eq_false, decide_false, decide_true, not_false_eq_true, Nat.add_zero, Nat.zero_add, new_box, fill_box1, fill_box1s, fill_box1p, fill_box1b, ↓reduceIte, List.all_cons, List.all_nil, Bool.and_true, Bool.and_self, one_int, one_ptr, one_slice, one_bool, one_str, one_nil, one_iface, List.length_cons, List.length_nil, boolK_pos, boolK_neg, boolK_npos, boolK_nneg, wrap_i64, wrap_u64, wrap_u8, wrap_u32, pick_pos, pick_neg, bin_quo_nn, bin_rem_nn, bin_shr1, hst3, e]


/-! ## Same -/

theorem s25 {m : Nat} (hm : 1 ≤ m) {H : AHeap} {b d : Nat} {c : Chan} {q : Queue} (h : Has H b (.cells c.cells)) (hd : Has H d (.cells c.cells)) (hq : QOk c q) (hq16 : q.length ≤ 16) :
    ttD m 25 [.pointer (some ⟨b, 0, none⟩), .pointer (some ⟨d, 0, none⟩)] H = some (.bool true, H) := by
  obtain ⟨m, rfl⟩ : ∃ k, m = k + 1 := ⟨m - 1, by omega⟩
  have hr := hq.1
  have hf := hq.2.1
  have hcn := hq.2.2.1
  refine ttD25 ?_
  unfold tt25
  simp (disch := omega) only [bindS, boolKT, boolKF, natK0, natK1, natK2, natK3, natKS, chkKT, bin_add, bin_sub, bin_mul, bin_eql, bin_neq, bin_lss, bin_leq, bin_gtr, bin_geq, un_not, un_neg, conv_int, min_op, max_op, extract_nth, load_one, load_agg, agg_some, field_ptr, len_slice, len_str, len_arr, nil_check, nil_check_f, callTo_func, pick_true, pick_false, cells_agg, cells_int, cells_ptr, cells_slice, cells_bool, cells_str, push_box, getT_zero, getT_succ, List.getElem?_cons_zero, List.getElem?_cons_succ, List.cons_append, List.nil_append, Bool.not_true, Bool.not_false, ne_eq, not_true_eq_false, decide_false, decide_true, not_false_eq_true, Nat.add_zero, Nat.zero_add, new_box, fill_box1, fill_box1s, fill_box1p, fill_box1b, ↓reduceIte, List.all_cons, List.all_nil, Bool.and_true, Bool.and_self, one_int, one_ptr, one_slice, one_bool, one_str, one_nil, one_iface, List.length_cons, List.length_nil, boolK_pos, boolK_neg, boolK_npos, boolK_nneg, wrap_i64, wrap_u64, wrap_u8, wrap_u32, pick_pos, pick_neg, bin_quo_nn, bin_rem_nn, bin_shr1, cell_at h.row, cell_at hd.row, c.c1060 hr, c.c1061 hr, c.c0, c.c1, c.c2]
  have key := iter_for (b := tt25l4b (ttD m)) c.n (fun i => [.pointer (some ⟨b, 0, none⟩), .pointer (some ⟨d, 0, none⟩), .bool false, .int .i64 c.n, .int .i64 (i : Int)]) (fun _ => H) (j := 0)
    (vs' := [.pointer (some ⟨b, 0, none⟩), .pointer (some ⟨d, 0, none⟩), .bool false, .int .i64 c.n, .int .i64 (c.n : Int)]) (H' := H) (fun i hi => by
      have hi16 : (c.first + i) % 16 < 16 := Nat.mod_lt _ (by omega)
      obtain ⟨msg, hm⟩ : ∃ msg, c.ring[(c.first + i) % 16]? = some msg := ⟨_, List.getElem?_eq_getElem (by omega)⟩
      have hload : H.cells ⟨b, 3 + (c.first + i) % 16 * 66, none⟩ 66 = some (mcells msg) := by rw [cells_at h.row (by rw [c.len hr]; omega), c.at hr hm]
      have hload' : H.cells ⟨d, 3 + (c.first + i) % 16 * 66, none⟩ 66 = some (mcells msg) := by rw [cells_at hd.row (by rw [c.len hr]; omega), c.at hr hm]
      have e1 : ((c.first : Int) + i) % 16 = (((c.first + i) % 16 : Nat) : Int) := by omega
      unfold tt25l4b tt25l4
      simp (disch := omega) only [bindS, boolKT, boolKF, natK0, natK1, natK2, natK3, natKS, chkKT, bin_add, bin_sub, bin_mul, bin_eql, bin_neq, bin_lss, bin_leq, bin_gtr, bin_geq, un_not, un_neg, conv_int, min_op, max_op, extract_nth, load_one, load_agg, agg_some, field_ptr, len_slice, len_str, len_arr, nil_check, nil_check_f, callTo_func, pick_true, pick_false, cells_agg, cells_int, cells_ptr, cells_slice, cells_bool, cells_str, push_box, getT_zero, getT_succ, List.getElem?_cons_zero, List.getElem?_cons_succ, List.cons_append, List.nil_append, Bool.not_true, Bool.not_false, ne_eq, not_true_eq_false, decide_false, decide_true, not_false_eq_true, Nat.add_zero, Nat.zero_add, new_box, fill_box1, fill_box1s, fill_box1p, fill_box1b, ↓reduceIte, List.all_cons, List.all_nil, Bool.and_true, Bool.and_self, one_int, one_ptr, one_slice, one_bool, one_str, one_nil, one_iface, List.length_cons, List.length_nil, boolK_pos, boolK_neg, boolK_npos, boolK_nneg, wrap_i64, wrap_u64, wrap_u8, wrap_u32, pick_pos, pick_neg, bin_quo_nn, bin_rem_nn, bin_shr1, cell_at h.row, cell_at hd.row, c.c1059 hr, e1, index_array, Int.toNat_natCast, hload, hload', agg_neq _ _ _ guard102 (refl102 msg) (mcells_scalar msg)]
      try rfl)
    (by unfold tt25l4b tt25l4; simp (disch := omega) only [bindS, boolKT, boolKF, natK0, natK1, natK2, natK3, natKS, chkKT, bin_add, bin_sub, bin_mul, bin_eql, bin_neq, bin_lss, bin_leq, bin_gtr, bin_geq, un_not, un_neg, conv_int, min_op, max_op, extract_nth, load_one, load_agg, agg_some, field_ptr, len_slice, len_str, len_arr, nil_check, nil_check_f, callTo_func, pick_true, pick_false, cells_agg, cells_int, cells_ptr, cells_slice, cells_bool, cells_str, push_box, getT_zero, getT_succ, List.getElem?_cons_zero, List.getElem?_cons_succ, List.cons_append, List.nil_append, Bool.not_true, Bool.not_false, ne_eq, not_true_eq_false, decide_false, decide_true, not_false_eq_true, Nat.add_zero, Nat.zero_add, new_box, fill_box1, fill_box1s, fill_box1p, fill_box1b, ↓reduceIte, List.all_cons, List.all_nil, Bool.and_true, Bool.and_self, one_int, one_ptr, one_slice, one_bool, one_str, one_nil, one_iface, List.length_cons, List.length_nil, boolK_pos, boolK_neg, boolK_npos, boolK_nneg, wrap_i64, wrap_u64, wrap_u8, wrap_u32, pick_pos, pick_neg, bin_quo_nn, bin_rem_nn, bin_shr1]) rounds (lt_rounds (by omega))
  rw [show iterL (tt25l4b (ttD m)) rounds [.pointer (some ⟨b, 0, none⟩), .pointer (some ⟨d, 0, none⟩), .bool false, .int .i64 c.n, .int .i64 0] H = _ from key]
  simp only [bindS, boolKT, boolKF, natK0, natK1, natK2, natK3, natKS, chkKT, bin_add, bin_sub, bin_mul, bin_eql, bin_neq, bin_lss, bin_leq, bin_gtr, bin_geq, un_not, un_neg, conv_int, min_op, max_op, extract_nth, load_one, load_agg, agg_some, field_ptr, len_slice, len_str, len_arr, nil_check, nil_check_f, callTo_func, pick_true, pick_false, cells_agg, cells_int, cells_ptr, cells_slice, cells_bool, cells_str, push_box, getT_zero, getT_succ, List.getElem?_cons_zero, List.getElem?_cons_succ, List.cons_append, List.nil_append, Bool.not_true, Bool.not_false, ne_eq, not_true_eq_false, decide_false, decide_true, not_false_eq_true, Nat.add_zero, Nat.zero_add, new_box, fill_box1, fill_box1s, fill_box1p, fill_box1b, ↓reduceIte, List.all_cons, List.all_nil, Bool.and_true, Bool.and_self, one_int, one_ptr, one_slice, one_bool, one_str, one_nil, one_iface, List.length_cons, List.length_nil, boolK_pos, boolK_neg, boolK_npos, boolK_nneg, wrap_i64, wrap_u64, wrap_u8, wrap_u32, pick_pos, pick_neg, bin_quo_nn, bin_rem_nn, bin_shr1]

end Go.Abs
