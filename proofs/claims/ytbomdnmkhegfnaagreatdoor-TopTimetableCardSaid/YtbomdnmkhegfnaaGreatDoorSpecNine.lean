/-
  THE LAW's LOOP.
-/
import Derived.Test.YtbomdnmkhegfnaaGreatDoorSpecEight
set_option linter.all false
namespace Go.Abs
open Go.Proofs Go.Tt

section
variable {B : Nat} {H : AHeap} {pt bc bl T : Nat} {tsl : Value} {c : Chan} {q : Queue} {rate burst left : Int} {vr vw : Value} {rv : List (Nat × Nat)}

/-- One act. -/
theorem r62 {m : Nat} (hm : 2 ≤ m) (h : ML B H pt bc bl T tsl c q q rate burst left vr vw rv) (hT : 1 ≤ T ∧ T ≤ 256) {kind most size lost : Int} (hk : ChK c kind most size lost q) (hll : lost ≤ 1000) {s5 : Value} {al : List Sp} (hA : Sl H s5 4 spcells al) {i : Nat} {a : Sp} (ha : al[i]? = some a) (hin : SpIn a) (hi : i < 80)
    (s14 s15 : Value) {now : Nat} (hnow : now ≤ 9223372036854850000) :
    Acted B H pt bl T tsl kind most size rate burst s5 s14 s15 i lost now (tt3l62b (ttD m) (MV kind most size rate s5 s14 s15 pt burst bc bl left lost vr vw now i) H) := by
  obtain ⟨i1, i2, i3, i4⟩ := id hin
  have hlen := (List.getElem?_eq_some_iff.1 ha).1
  obtain ⟨b0, o0, c0, e1, _, _, _, e2, _⟩ := hA.at spcells_len (i := (i : Int)) (by omega) (x := a) ha .i64
  have x1 := ext_boxed H [.int .i64 0, .int .i64 0, .int .i64 0, .int .i64 0] (spcells a)
  have hbx := (has_boxed H [.int .i64 0, .int .i64 0, .int .i64 0, .int .i64 0] (spcells a)).row
  have hfb := fill_box H [.int .i64 0, .int .i64 0, .int .i64 0, .int .i64 0] (spcells a) 4 rfl
  have h1 := h.ext x1
  have hcn := h.hc.1
  have hln := h.hl.1
  generalize hH1 : boxed H [.int .i64 0, .int .i64 0, .int .i64 0, .int .i64 0] (spcells a) = H1 at *
  have d0 := sparOf_nn (x := a.d) (show (0 : Int) < 6 by omega)
  have d1 := sparOf_lt (x := a.d) (show (0 : Int) < 6 by omega)
  have es := Go.Abs.s5 (m := m) (by omega) i1 (show (0 : Int) < 6 by omega) H1
  have hb0 := cell_at hbx 0
  have hb1 := cell_at hbx 1
  simp only [spcells, List.getElem?_cons_succ, List.getElem?_cons_zero] at hb0 hb1
  generalize sparOf a.d 6 = d at *
  rcases (show d = 0 ∨ (d = 1 ∨ d = 2 ∨ d = 3) ∨ d = 4 ∨ d = 5 by omega) with rfl | hd | rfl | rfl
  · have k0 := sparOf_nn (x := a.a) (show (0 : Int) < 2 * (T : Int) + 1 by omega)
    have k1 := sparOf_lt (x := a.a) (show (0 : Int) < 2 * (T : Int) + 1 by omega)
    have ek := Go.Abs.s5 (m := m) (by omega) i2 (show (0 : Int) < 2 * (T : Int) + 1 by omega) H1
    obtain ⟨k, hkk⟩ := Int.eq_ofNat_of_zero_le k0
    have hkk : sparOf a.a (2 * (T : Int) + 1) = (k : Int) := hkk
    rw [hkk] at ek
    obtain ⟨left', H2, e80, g1, g2, g3⟩ := l80 (m := m) hm hT h.dlp (.int .i64 kind) (.int .i64 most) (.int .i64 size) s5 s14 s15 (.pointer (some ⟨bc, 0, none⟩)) (.int .u64 lost) vr vw (.int .i64 (i : Int)) k h1.hpt h1.hl h1.cap (now := now) (by omega) (by omega) rounds (lt_rounds (by omega))
    have h2 := h1.setCap g3 g1 g2
    obtain ⟨f1, f2, f3, f4, f5, f6⟩ := h2.tail (m := m) (by omega)
    rw [hk.el] at f3
    refine ⟨box H2 (capL rate burst left'), bc, c, q, left', lost, vr, vw, rv, now + k, ?_, h2.ext (ext_box _ _), hk, by omega, by omega, ((Ext.mod x1).trans (g3.mono fun b _ hb => by have := h.bB; omega)).trans (Ext.mod (ext_box _ _))⟩
    unfold tt3l62b tt3l62 tt3j372
    simp (disch := omega) only [bindS, boolKT, boolKF, natK0, natK1, natK2, natK3, natKS, chkKT, bin_add, bin_sub, bin_mul, bin_eql, bin_neq, bin_lss, bin_leq, bin_gtr, bin_geq, un_not, un_neg, conv_int, min_op, max_op, extract_nth, load_one, load_agg, agg_some, field_ptr, len_slice, len_str, len_arr, nil_check, nil_check_f, callTo_func, pick_true, pick_false, cells_agg, cells_int, cells_ptr, cells_slice, cells_bool, cells_str, push_box, getT_zero, getT_succ, List.getElem?_cons_zero, List.getElem?_cons_succ, List.cons_append, List.nil_append, Bool.not_true, Bool.not_false, ne_eq, not_true_eq_false, decide_false, decide_true, not_false_eq_true, Nat.add_zero, Nat.zero_add, new_box, fill_box1, fill_box1s, fill_box1p, fill_box1b, ↓reduceIte, List.all_cons, List.all_nil, Bool.and_true, Bool.and_self, one_int, one_ptr, one_slice, one_bool, one_str, one_nil, one_iface, List.length_cons, List.length_nil, boolK_pos, boolK_neg, boolK_npos, boolK_nneg, wrap_i64, wrap_u64, wrap_u8, wrap_u32, pick_pos, pick_neg, bin_quo_nn, bin_rem_nn, bin_shr1, hA.len, e1, e2, hfb, hb0, es, hb1, cell_at h1.hpt, ek]
    rw [e80]
    simp (disch := omega) only [bindS, boolKT, boolKF, natK0, natK1, natK2, natK3, natKS, chkKT, bin_add, bin_sub, bin_mul, bin_eql, bin_neq, bin_lss, bin_leq, bin_gtr, bin_geq, un_not, un_neg, conv_int, min_op, max_op, extract_nth, load_one, load_agg, agg_some, field_ptr, len_slice, len_str, len_arr, nil_check, nil_check_f, callTo_func, pick_true, pick_false, cells_agg, cells_int, cells_ptr, cells_slice, cells_bool, cells_str, push_box, getT_zero, getT_succ, List.getElem?_cons_zero, List.getElem?_cons_succ, List.cons_append, List.nil_append, Bool.not_true, Bool.not_false, ne_eq, not_true_eq_false, decide_false, decide_true, not_false_eq_true, Nat.add_zero, Nat.zero_add, new_box, fill_box1, fill_box1s, fill_box1p, fill_box1b, ↓reduceIte, List.all_cons, List.all_nil, Bool.and_true, Bool.and_self, one_int, one_ptr, one_slice, one_bool, one_str, one_nil, one_iface, List.length_cons, List.length_nil, boolK_pos, boolK_neg, boolK_npos, boolK_nneg, wrap_i64, wrap_u64, wrap_u8, wrap_u32, pick_pos, pick_neg, bin_quo_nn, bin_rem_nn, bin_shr1, f1, f2, f3, f4, f5, f6]
  · obtain ⟨H', bc', c', q', left', lost', vr', vw', rv', now', e, g1, g2, g3, g4, g5⟩ := j368_send (m := m) hm h1 hk hll hin hbx ⟨by omega, by omega⟩ s5 s14 s15 (.int .i64 d) (now := now) (by omega) (i := (i : Int)) (by omega)
    refine ⟨H', bc', c', q', left', lost', vr', vw', rv', now', ?_, g1, g2, g3, g4, (Ext.mod x1).trans g5⟩
    rw [← e]
    unfold tt3l62b tt3l62 tt3j372
    rcases hd with rfl | rfl | rfl
    · simp (disch := omega) only [bindS, boolKT, boolKF, natK0, natK1, natK2, natK3, natKS, chkKT, bin_add, bin_sub, bin_mul, bin_eql, bin_neq, bin_lss, bin_leq, bin_gtr, bin_geq, un_not, un_neg, conv_int, min_op, max_op, extract_nth, load_one, load_agg, agg_some, field_ptr, len_slice, len_str, len_arr, nil_check, nil_check_f, callTo_func, pick_true, pick_false, cells_agg, cells_int, cells_ptr, cells_slice, cells_bool, cells_str, push_box, getT_zero, getT_succ, List.getElem?_cons_zero, List.getElem?_cons_succ, List.cons_append, List.nil_append, Bool.not_true, Bool.not_false, ne_eq, not_true_eq_false, decide_false, decide_true, not_false_eq_true, Nat.add_zero, Nat.zero_add, new_box, fill_box1, fill_box1s, fill_box1p, fill_box1b, ↓reduceIte, List.all_cons, List.all_nil, Bool.and_true, Bool.and_self, one_int, one_ptr, one_slice, one_bool, one_str, one_nil, one_iface, List.length_cons, List.length_nil, boolK_pos, boolK_neg, boolK_npos, boolK_nneg, wrap_i64, wrap_u64, wrap_u8, wrap_u32, pick_pos, pick_neg, bin_quo_nn, bin_rem_nn, bin_shr1, hA.len, e1, e2, hfb, hb0, es]
    · simp (disch := omega) only [bindS, boolKT, boolKF, natK0, natK1, natK2, natK3, natKS, chkKT, bin_add, bin_sub, bin_mul, bin_eql, bin_neq, bin_lss, bin_leq, bin_gtr, bin_geq, un_not, un_neg, conv_int, min_op, max_op, extract_nth, load_one, load_agg, agg_some, field_ptr, len_slice, len_str, len_arr, nil_check, nil_check_f, callTo_func, pick_true, pick_false, cells_agg, cells_int, cells_ptr, cells_slice, cells_bool, cells_str, push_box, getT_zero, getT_succ, List.getElem?_cons_zero, List.getElem?_cons_succ, List.cons_append, List.nil_append, Bool.not_true, Bool.not_false, ne_eq, not_true_eq_false, decide_false, decide_true, not_false_eq_true, Nat.add_zero, Nat.zero_add, new_box, fill_box1, fill_box1s, fill_box1p, fill_box1b, ↓reduceIte, List.all_cons, List.all_nil, Bool.and_true, Bool.and_self, one_int, one_ptr, one_slice, one_bool, one_str, one_nil, one_iface, List.length_cons, List.length_nil, boolK_pos, boolK_neg, boolK_npos, boolK_nneg, wrap_i64, wrap_u64, wrap_u8, wrap_u32, pick_pos, pick_neg, bin_quo_nn, bin_rem_nn, bin_shr1, hA.len, e1, e2, hfb, hb0, es]
    · simp (disch := omega) only [bindS, boolKT, boolKF, natK0, natK1, natK2, natK3, natKS, chkKT, bin_add, bin_sub, bin_mul, bin_eql, bin_neq, bin_lss, bin_leq, bin_gtr, bin_geq, un_not, un_neg, conv_int, min_op, max_op, extract_nth, load_one, load_agg, agg_some, field_ptr, len_slice, len_str, len_arr, nil_check, nil_check_f, callTo_func, pick_true, pick_false, cells_agg, cells_int, cells_ptr, cells_slice, cells_bool, cells_str, push_box, getT_zero, getT_succ, List.getElem?_cons_zero, List.getElem?_cons_succ, List.cons_append, List.nil_append, Bool.not_true, Bool.not_false, ne_eq, not_true_eq_false, decide_false, decide_true, not_false_eq_true, Nat.add_zero, Nat.zero_add, new_box, fill_box1, fill_box1s, fill_box1p, fill_box1b, ↓reduceIte, List.all_cons, List.all_nil, Bool.and_true, Bool.and_self, one_int, one_ptr, one_slice, one_bool, one_str, one_nil, one_iface, List.length_cons, List.length_nil, boolK_pos, boolK_neg, boolK_npos, boolK_nneg, wrap_i64, wrap_u64, wrap_u8, wrap_u32, pick_pos, pick_neg, bin_quo_nn, bin_rem_nn, bin_shr1, hA.len, e1, e2, hfb, hb0, es]
  · obtain ⟨H', bc', c', q', left', lost', vr', vw', rv', now', e, g1, g2, g3, g4, g5⟩ := j368_clone (m := m) hm h1 hk s5 s14 s15 (.pointer (some ⟨H.next, 0, none⟩)) (now := now) (i := (i : Int)) (by omega)
    refine ⟨H', bc', c', q', left', lost', vr', vw', rv', now', ?_, g1, g2, g3, g4, (Ext.mod x1).trans g5⟩
    rw [← e]
    unfold tt3l62b tt3l62 tt3j372
    simp (disch := omega) only [bindS, boolKT, boolKF, natK0, natK1, natK2, natK3, natKS, chkKT, bin_add, bin_sub, bin_mul, bin_eql, bin_neq, bin_lss, bin_leq, bin_gtr, bin_geq, un_not, un_neg, conv_int, min_op, max_op, extract_nth, load_one, load_agg, agg_some, field_ptr, len_slice, len_str, len_arr, nil_check, nil_check_f, callTo_func, pick_true, pick_false, cells_agg, cells_int, cells_ptr, cells_slice, cells_bool, cells_str, push_box, getT_zero, getT_succ, List.getElem?_cons_zero, List.getElem?_cons_succ, List.cons_append, List.nil_append, Bool.not_true, Bool.not_false, ne_eq, not_true_eq_false, decide_false, decide_true, not_false_eq_true, Nat.add_zero, Nat.zero_add, new_box, fill_box1, fill_box1s, fill_box1p, fill_box1b, ↓reduceIte, List.all_cons, List.all_nil, Bool.and_true, Bool.and_self, one_int, one_ptr, one_slice, one_bool, one_str, one_nil, one_iface, List.length_cons, List.length_nil, boolK_pos, boolK_neg, boolK_npos, boolK_nneg, wrap_i64, wrap_u64, wrap_u8, wrap_u32, pick_pos, pick_neg, bin_quo_nn, bin_rem_nn, bin_shr1, hA.len, e1, e2, hfb, hb0, es]
    try rfl
  · obtain ⟨H', bc', c', q', left', lost', vr', vw', rv', now', e, g1, g2, g3, g4, g5⟩ := j368_recv (m := m) hm h1 hk hin hbx s5 s14 s15 (now := now) (by omega) (i := (i : Int)) (by omega) (d := 5) (by omega)
    refine ⟨H', bc', c', q', left', lost', vr', vw', rv', now', ?_, g1, g2, g3, g4, (Ext.mod x1).trans g5⟩
    rw [← e]
    unfold tt3l62b tt3l62 tt3j372
    simp (disch := omega) only [bindS, boolKT, boolKF, natK0, natK1, natK2, natK3, natKS, chkKT, bin_add, bin_sub, bin_mul, bin_eql, bin_neq, bin_lss, bin_leq, bin_gtr, bin_geq, un_not, un_neg, conv_int, min_op, max_op, extract_nth, load_one, load_agg, agg_some, field_ptr, len_slice, len_str, len_arr, nil_check, nil_check_f, callTo_func, pick_true, pick_false, cells_agg, cells_int, cells_ptr, cells_slice, cells_bool, cells_str, push_box, getT_zero, getT_succ, List.getElem?_cons_zero, List.getElem?_cons_succ, List.cons_append, List.nil_append, Bool.not_true, Bool.not_false, ne_eq, not_true_eq_false, decide_false, decide_true, not_false_eq_true, Nat.add_zero, Nat.zero_add, new_box, fill_box1, fill_box1s, fill_box1p, fill_box1b, ↓reduceIte, List.all_cons, List.all_nil, Bool.and_true, Bool.and_self, one_int, one_ptr, one_slice, one_bool, one_str, one_nil, one_iface, List.length_cons, List.length_nil, boolK_pos, boolK_neg, boolK_npos, boolK_nneg, wrap_i64, wrap_u64, wrap_u8, wrap_u32, pick_pos, pick_neg, bin_quo_nn, bin_rem_nn, bin_shr1, hA.len, e1, e2, hfb, hb0, es]
    try rfl
end

/-- All acts. -/
theorem l62 {m : Nat} (hm : 2 ≤ m) {B pt bl T : Nat} {tsl : Value} {rate burst : Int} (hT : 1 ≤ T ∧ T ≤ 256) {kind most size : Int} {H0 : AHeap} {s5 : Value} {al : List Sp} (hA0 : Sl H0 s5 4 spcells al) (hB : ∀ b, vblk s5 = some b → b < B) (hin : ∀ a ∈ al, SpIn a) (s14 s15 : Value) {K : Nat} (hK : K ≤ 9223372036854776000) (d : Nat) :
    ∀ {i : Nat} {H : AHeap} {bc : Nat} {c : Chan} {q : Queue} {left lost : Int} {vr vw : Value} {rv : List (Nat × Nat)} {now : Nat}, i + d = min al.length 80 → Mod (B ≤ ·) H0 H → ML B H pt bc bl T tsl c q q rate burst left vr vw rv → ChK c kind most size lost q → lost ≤ i → now ≤ K + 513 * i → ∀ M, d < M →
    ∃ H' bc' c' q' left' lost' vr' vw' rv' now' i', iterL (tt3l62b (ttD m)) M (MV kind most size rate s5 s14 s15 pt burst bc bl left lost vr vw now i) H = some (0, MV kind most size rate s5 s14 s15 pt burst bc' bl left' lost' vr' vw' now' i', H') ∧
      ML B H' pt bc' bl T tsl c' q' q' rate burst left' vr' vw' rv' ∧ ChK c' kind most size lost' q' := by
  induction d with
  | zero =>
    intro i H bc c q left lost vr vw rv now hid hmod h hk hl hn M hM
    obtain ⟨M, rfl⟩ : ∃ j, M = j + 1 := ⟨M - 1, by omega⟩
    have hA := hA0.mod hmod fun b hb hb' => by have := hB b hb; omega
    refine ⟨H, bc, c, q, left, lost, vr, vw, rv, now, i, iter_exit ?_, h, hk⟩
    unfold tt3l62b tt3l62 tt3j372
    by_cases hlt : i < al.length
    · simp (disch := omega) only [bindS, boolKT, boolKF, natK0, natK1, natK2, natK3, natKS, chkKT, bin_add, bin_sub, bin_mul, bin_eql, bin_neq, bin_lss, bin_leq, bin_gtr, bin_geq, un_not, un_neg, conv_int, min_op, max_op, extract_nth, load_one, load_agg, agg_some, field_ptr, len_slice, len_str, len_arr, nil_check, nil_check_f, callTo_func, pick_true, pick_false, cells_agg, cells_int, cells_ptr, cells_slice, cells_bool, cells_str, push_box, getT_zero, getT_succ, List.getElem?_cons_zero, List.getElem?_cons_succ, List.cons_append, List.nil_append, Bool.not_true, Bool.not_false, ne_eq, not_true_eq_false, decide_false, decide_true, not_false_eq_true, Nat.add_zero, Nat.zero_add, new_box, fill_box1, fill_box1s, fill_box1p, fill_box1b, ↓reduceIte, List.all_cons, List.all_nil, Bool.and_true, Bool.and_self, one_int, one_ptr, one_slice, one_bool, one_str, one_nil, one_iface, List.length_cons, List.length_nil, boolK_pos, boolK_neg, boolK_npos, boolK_nneg, wrap_i64, wrap_u64, wrap_u8, wrap_u32, pick_pos, pick_neg, bin_quo_nn, bin_rem_nn, bin_shr1, hA.len]
    · simp (disch := omega) only [bindS, boolKT, boolKF, natK0, natK1, natK2, natK3, natKS, chkKT, bin_add, bin_sub, bin_mul, bin_eql, bin_neq, bin_lss, bin_leq, bin_gtr, bin_geq, un_not, un_neg, conv_int, min_op, max_op, extract_nth, load_one, load_agg, agg_some, field_ptr, len_slice, len_str, len_arr, nil_check, nil_check_f, callTo_func, pick_true, pick_false, cells_agg, cells_int, cells_ptr, cells_slice, cells_bool, cells_str, push_box, getT_zero, getT_succ, List.getElem?_cons_zero, List.getElem?_cons_succ, List.cons_append, List.nil_append, Bool.not_true, Bool.not_false, ne_eq, not_true_eq_false, decide_false, decide_true, not_false_eq_true, Nat.add_zero, Nat.zero_add, new_box, fill_box1, fill_box1s, fill_box1p, fill_box1b, ↓reduceIte, List.all_cons, List.all_nil, Bool.and_true, Bool.and_self, one_int, one_ptr, one_slice, one_bool, one_str, one_nil, one_iface, List.length_cons, List.length_nil, boolK_pos, boolK_neg, boolK_npos, boolK_nneg, wrap_i64, wrap_u64, wrap_u8, wrap_u32, pick_pos, pick_neg, bin_quo_nn, bin_rem_nn, bin_shr1, hA.len]
  | succ d ih =>
    intro i H bc c q left lost vr vw rv now hid hmod h hk hl hn M hM
    obtain ⟨M, rfl⟩ : ∃ j, M = j + 1 := ⟨M - 1, by omega⟩
    have hA := hA0.mod hmod fun b hb hb' => by have := hB b hb; omega
    have hlt : i < al.length := by omega
    obtain ⟨H1, bc1, c1, q1, left1, lost1, vr1, vw1, rv1, now1, e1, g1, g2, g3, g4, g5⟩ := r62 hm h hT hk (by omega) hA (List.getElem?_eq_getElem hlt) (hin _ (List.getElem_mem hlt)) (by omega) s14 s15 (now := now) (by omega)
    have hl1 : lost1 ≤ ((i + 1 : Nat) : Int) := by omega
    have hn1 : now1 ≤ K + 513 * (i + 1) := Nat.le_trans g4 (by rw [Nat.mul_succ, ← Nat.add_assoc]; exact Nat.add_le_add_right hn 513)
    obtain ⟨H2, bc2, c2, q2, left2, lost2, vr2, vw2, rv2, now2, i2, e2, k1, k2⟩ := ih (i := i + 1) (by omega) (hmod.trans g5) g1 g2 hl1 hn1 M (by omega)
    refine ⟨H2, bc2, c2, q2, left2, lost2, vr2, vw2, rv2, now2, i2, ?_, k1, k2⟩
    rw [iter_next e1]
    exact e2
end Go.Abs
