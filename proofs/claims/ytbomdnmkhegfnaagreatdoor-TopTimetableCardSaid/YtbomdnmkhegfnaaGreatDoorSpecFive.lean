/-
  THE LAW's TABLE IS ASKED, tick by tick.
-/
import Derived.Test.YtbomdnmkhegfnaaGreatDoorSpecFour
set_option linter.all false
namespace Go.Abs
open Go.Proofs Go.Tt

structure CK (H : AHeap) (pt : Nat) (sl sw sk : Value) (ws : List Win) (who which : List Int) : Prop where
  hpt : Row H pt [.int .i64 who.length, sl]
  tab : TabOk H sl ws who which
  sw : Sl H sw 1 icell who
  sk : Sl H sk 1 icell which

section
variable {H : AHeap} {pt : Nat} {sl sw sk : Value} {ws : List Win} {who which : List Int}

theorem CK.ext {H' : AHeap} (h : CK H pt sl sw sk ws who which) (hx : Ext H H') : CK H' pt sl sw sk ws who which := ⟨h.hpt.ext hx, h.tab.ext hx, h.sw.ext hx, h.sk.ext hx⟩

theorem sl_int {H : AHeap} {v : Value} {l : List Int} (h : Sl H v 1 icell l) {i : Int} {x : Int} (h0 : 0 ≤ i) (hx : l[i.toNat]? = some x) : ∃ b o, indexPtr (some (none, 1)) v (.int .i64 i) = some (.pointer (some ⟨b, o, none⟩)) ∧ H.cell ⟨b, o, none⟩ = some (.int .i64 x) ∧ vblk v = some b := by
  obtain ⟨b, o, c, e1, e0, _, _, _, e3⟩ := h.at icell_len h0 hx .i64
  have := e3 0 (by omega)
  exact ⟨b, o, e1, by simpa [icell] using this, e0⟩
theorem sl_intu {H : AHeap} {v : Value} {l : List Int} (h : Sl H v 1 icell l) {i : Int} {x : Int} (h0 : 0 ≤ i) (hx : l[i.toNat]? = some x) : ∃ b o, indexPtr (some (none, 1)) v (.int .u64 i) = some (.pointer (some ⟨b, o, none⟩)) ∧ H.cell ⟨b, o, none⟩ = some (.int .i64 x) ∧ vblk v = some b := by
  obtain ⟨b, o, c, e1, e0, _, _, _, e3⟩ := h.at icell_len h0 hx .u64
  have := e3 0 (by omega)
  exact ⟨b, o, e1, by simpa [icell] using this, e0⟩
theorem cell_ext {H H' : AHeap} (hx : Ext H H') {b o : Nat} (hb : b < H.next) : H'.cell ⟨b, o, none⟩ = H.cell ⟨b, o, none⟩ := by
  simp only [AHeap.cell, hx.2 b hb (fun h => h)]

/-- Who, and which window. -/
theorem l28 {m : Nat} (hm : 5 ≤ m) (h : CK H pt sl sw sk ws who which) {f : Nat} (hf : f ≤ 18446744073709551615) (s1 s2 s3 s4 s5 s6 s14 s15 s150 s151 s152 : Value) :
    ∃ H', iterL (tt3l28b (ttD m)) rounds [s1, s2, s3, s4, s5, s6, s14, s15, .pointer (some ⟨pt, 0, none⟩), sw, sk, .int .u64 f, .int .u64 0, s150, s151, s152] H =
      some (0, [s1, s2, s3, s4, s5, s6, s14, s15, .pointer (some ⟨pt, 0, none⟩), sw, sk, .int .u64 f, .int .u64 ((who.length + 1 : Nat) : Int), s150, s151, s152], H') ∧ Ext H H' := by
  have hle := h.tab.le
  have hpos := h.tab.pos
  obtain ⟨j, vs', H', e, rfl, rfl, hx⟩ := iter_inv (b := tt3l28b (ttD m)) (I := fun d vs H' => Ext H H' ∧ ∃ k : Nat, d = who.length + 1 - k ∧ k ≤ who.length + 1 ∧
      vs = [s1, s2, s3, s4, s5, s6, s14, s15, .pointer (some ⟨pt, 0, none⟩), sw, sk, .int .u64 f, .int .u64 (k : Int), s150, s151, s152])
    (Q := fun j vs H' => j = 0 ∧ vs = [s1, s2, s3, s4, s5, s6, s14, s15, .pointer (some ⟨pt, 0, none⟩), sw, sk, .int .u64 f, .int .u64 ((who.length + 1 : Nat) : Int), s150, s151, s152] ∧ Ext H H') (by
    rintro d vs H' ⟨hx, k, rfl, hk, rfl⟩
    have h' := h.ext hx
    by_cases hlt : k ≤ who.length
    · left
      have hu : InU (IntKind.u64.wrap ((f : Int) + k)) := by rw [wrap_u64_mod]; constructor <;> omega
      obtain ⟨tick, htick⟩ : ∃ t, IntKind.u64.wrap ((f : Int) + k) = t := ⟨_, rfl⟩
      rw [htick] at hu
      obtain ⟨p, hp, hp'⟩ := place_of hpos hu
      obtain ⟨x, H1, hx1, c1, x1⟩ := s7 (m := m) hm h'.tab hu hp hp'
      obtain ⟨y, H2, hy2, c2, x2⟩ := s8 (m := m) (by omega) (h'.tab.ext x1) hu hp hp'
      obtain ⟨b1, o1, i1, g1, v1⟩ := sl_int h'.sw (i := (p : Int)) (by omega) (x := x) (by simpa using hx1)
      obtain ⟨b2, o2, i2, g2, v2⟩ := sl_int (h'.ext x1).sk (i := (p : Int)) (by omega) (x := y) (by simpa using hy2)
      have g1' := (cell_ext x1 (h'.sw.lt b1 v1) (o := o1)).trans g1
      have g2' := (cell_ext x2 ((h'.ext x1).sk.lt b2 v2) (o := o2)).trans g2
      refine ⟨who.length + 1 - (k + 1), _, H2, ?_, by omega, (hx.trans x1).trans x2, k + 1, rfl, by omega, rfl⟩
      unfold tt3l28b tt3l28
      have hu1 := hu.1
      have hr1 := cells_at h'.hpt (o := 0) (n := 2) (by simp)
      have hr2 := cells_at (h'.ext x1).hpt (o := 0) (n := 2) (by simp)
      have hwrap : ∀ x : Int, 0 ≤ x → x ≤ 18446744073709551615 → IntKind.u64.wrap x = x := fun x h h' => wrap_u64 h h'
      simp only [Option.bind_some, boolK_true, getT_zero, getT_succ, field_ptr, load_one, Nat.zero_add, cell_at h'.hpt, List.getElem?_cons_zero, conv_int, hwrap who.length (by omega) (by omega), bin_leq, boolK_pos (show (k : Int) ≤ who.length by omega), bin_add, htick]
      simp (disch := omega) only [bindS, boolKT, boolKF, natK0, natK1, natK2, natK3, natKS, chkKT, bin_add, bin_sub, bin_mul, bin_eql, bin_neq, bin_lss, bin_leq, bin_gtr, bin_geq, un_not, un_neg, conv_int, min_op, max_op, extract_nth, load_one, load_agg, agg_some, field_ptr, len_slice, len_str, len_arr, nil_check, nil_check_f, callTo_func, pick_true, pick_false, cells_agg, cells_int, cells_ptr, cells_slice, cells_bool, cells_str, push_box, getT_zero, getT_succ, List.getElem?_cons_zero, List.getElem?_cons_succ, List.cons_append, List.nil_append, Bool.not_true, Bool.not_false, ne_eq, not_true_eq_false, decide_false, decide_true, not_false_eq_true, Nat.add_zero, Nat.zero_add, new_box, fill_box1, fill_box1s, fill_box1p, fill_box1b, ↓reduceIte, List.all_cons, List.all_nil, Bool.and_true, Bool.and_self, one_int, one_ptr, one_slice, one_bool, one_str, one_nil, one_iface, List.length_cons, List.length_nil, boolK_pos, boolK_neg, boolK_npos, boolK_nneg, wrap_i64, wrap_u64, wrap_u8, wrap_u32, pick_pos, pick_neg, bin_quo_nn, bin_rem_nn, bin_shr1, hp, i1, i2, g1, g2, hr1, hr2, List.drop_zero, List.take_succ_cons, List.take_zero, c1, c2, g1', g2', same_int, ne_eq, not_true_eq_false, decide_false]
      try rfl
    · right
      obtain rfl : k = who.length + 1 := by omega
      refine ⟨0, _, H', ?_, rfl, rfl, hx⟩
      unfold tt3l28b tt3l28
      simp (disch := omega) only [bindS, boolKT, boolKF, natK0, natK1, natK2, natK3, natKS, chkKT, bin_add, bin_sub, bin_mul, bin_eql, bin_neq, bin_lss, bin_leq, bin_gtr, bin_geq, un_not, un_neg, conv_int, min_op, max_op, extract_nth, load_one, load_agg, agg_some, field_ptr, len_slice, len_str, len_arr, nil_check, nil_check_f, callTo_func, pick_true, pick_false, cells_agg, cells_int, cells_ptr, cells_slice, cells_bool, cells_str, push_box, getT_zero, getT_succ, List.getElem?_cons_zero, List.getElem?_cons_succ, List.cons_append, List.nil_append, Bool.not_true, Bool.not_false, ne_eq, not_true_eq_false, decide_false, decide_true, not_false_eq_true, Nat.add_zero, Nat.zero_add, new_box, fill_box1, fill_box1s, fill_box1p, fill_box1b, ↓reduceIte, List.all_cons, List.all_nil, Bool.and_true, Bool.and_self, one_int, one_ptr, one_slice, one_bool, one_str, one_nil, one_iface, List.length_cons, List.length_nil, boolK_pos, boolK_neg, boolK_npos, boolK_nneg, wrap_i64, wrap_u64, wrap_u8, wrap_u32, pick_pos, pick_neg, bin_quo_nn, bin_rem_nn, bin_shr1, cell_at h'.hpt]
      )
    (who.length + 1) rounds _ H ⟨Mod.refl, 0, by omega, by omega, rfl⟩ (lt_rounds (by omega))
  exact ⟨H', e, hx⟩

/-- The next turn, on paper. -/
theorem l39 {m : Nat} (h : CK H pt sl sw sk ws who which) {f : Nat} (hf : f ≤ 18446744073709551615) (part : Int) (s1 s2 s3 s4 s5 s6 s14 s15 s150 s151 s152 : Value) :
    ∃ k : Nat, iterL (tt3l39b (ttD m)) rounds [s1, s2, s3, s4, s5, s6, s14, s15, .pointer (some ⟨pt, 0, none⟩), sw, sk, .int .u64 f, .int .i64 part, .int .u64 0, .bool false, .int .i64 1, s150, s151, s152] H =
      some (0, [s1, s2, s3, s4, s5, s6, s14, s15, .pointer (some ⟨pt, 0, none⟩), sw, sk, .int .u64 f, .int .i64 part, .int .u64 ((nextF who part f who.length 1).getD 0 : Nat), .bool (nextF who part f who.length 1).isSome, .int .i64 k, s150, s151, s152], H) := by
  have hle := h.tab.le
  have hpos := h.tab.pos
  obtain ⟨j, vs', H', e, rfl, rfl, k, rfl⟩ := iter_inv (b := tt3l39b (ttD m)) (I := fun d vs H' => H' = H ∧ ∃ (k : Nat) (o : Option Nat), d = who.length + 1 - k ∧ 1 ≤ k ∧ k ≤ who.length + 1 ∧
      (match o with | some x => nextF who part f who.length 1 = some x | none => nextF who part f who.length 1 = nextF who part f (who.length + 1 - k) k) ∧
      vs = [s1, s2, s3, s4, s5, s6, s14, s15, .pointer (some ⟨pt, 0, none⟩), sw, sk, .int .u64 f, .int .i64 part, .int .u64 (o.getD 0 : Nat), .bool o.isSome, .int .i64 (k : Int), s150, s151, s152])
    (Q := fun j vs H' => j = 0 ∧ H' = H ∧ ∃ k : Nat, vs = [s1, s2, s3, s4, s5, s6, s14, s15, .pointer (some ⟨pt, 0, none⟩), sw, sk, .int .u64 f, .int .i64 part, .int .u64 ((nextF who part f who.length 1).getD 0 : Nat), .bool (nextF who part f who.length 1).isSome, .int .i64 k, s150, s151, s152]) (by
    rintro d vs H' ⟨rfl, k, o, rfl, hk0, hk, ho, rfl⟩
    unfold tt3l39b tt3l39 tt3j108
    cases o with
    | some x =>
      right
      simp only at ho
      refine ⟨0, [s1, s2, s3, s4, s5, s6, s14, s15, .pointer (some ⟨pt, 0, none⟩), sw, sk, .int .u64 f, .int .i64 part, .int .u64 ((nextF who part f who.length 1).getD 0 : Nat), .bool (nextF who part f who.length 1).isSome, .int .i64 k, s150, s151, s152], H', ?_, rfl, rfl, k, rfl⟩
      rw [ho]
      simp only [Option.getD_some, Option.isSome_some]
      by_cases hlt : k ≤ who.length
      · simp (disch := omega) only [bindS, boolKT, boolKF, natK0, natK1, natK2, natK3, natKS, chkKT, bin_add, bin_sub, bin_mul, bin_eql, bin_neq, bin_lss, bin_leq, bin_gtr, bin_geq, un_not, un_neg, conv_int, min_op, max_op, extract_nth, load_one, load_agg, agg_some, field_ptr, len_slice, len_str, len_arr, nil_check, nil_check_f, callTo_func, pick_true, pick_false, cells_agg, cells_int, cells_ptr, cells_slice, cells_bool, cells_str, push_box, getT_zero, getT_succ, List.getElem?_cons_zero, List.getElem?_cons_succ, List.cons_append, List.nil_append, Bool.not_true, Bool.not_false, ne_eq, not_true_eq_false, decide_false, decide_true, not_false_eq_true, Nat.add_zero, Nat.zero_add, new_box, fill_box1, fill_box1s, fill_box1p, fill_box1b, ↓reduceIte, List.all_cons, List.all_nil, Bool.and_true, Bool.and_self, one_int, one_ptr, one_slice, one_bool, one_str, one_nil, one_iface, List.length_cons, List.length_nil, boolK_pos, boolK_neg, boolK_npos, boolK_nneg, wrap_i64, wrap_u64, wrap_u8, wrap_u32, pick_pos, pick_neg, bin_quo_nn, bin_rem_nn, bin_shr1, cell_at h.hpt]
      · simp (disch := omega) only [bindS, boolKT, boolKF, natK0, natK1, natK2, natK3, natKS, chkKT, bin_add, bin_sub, bin_mul, bin_eql, bin_neq, bin_lss, bin_leq, bin_gtr, bin_geq, un_not, un_neg, conv_int, min_op, max_op, extract_nth, load_one, load_agg, agg_some, field_ptr, len_slice, len_str, len_arr, nil_check, nil_check_f, callTo_func, pick_true, pick_false, cells_agg, cells_int, cells_ptr, cells_slice, cells_bool, cells_str, push_box, getT_zero, getT_succ, List.getElem?_cons_zero, List.getElem?_cons_succ, List.cons_append, List.nil_append, Bool.not_true, Bool.not_false, ne_eq, not_true_eq_false, decide_false, decide_true, not_false_eq_true, Nat.add_zero, Nat.zero_add, new_box, fill_box1, fill_box1s, fill_box1p, fill_box1b, ↓reduceIte, List.all_cons, List.all_nil, Bool.and_true, Bool.and_self, one_int, one_ptr, one_slice, one_bool, one_str, one_nil, one_iface, List.length_cons, List.length_nil, boolK_pos, boolK_neg, boolK_npos, boolK_nneg, wrap_i64, wrap_u64, wrap_u8, wrap_u32, pick_pos, pick_neg, bin_quo_nn, bin_rem_nn, bin_shr1, cell_at h.hpt]
    | none =>
      simp only [Option.getD_none, Option.isSome_none, Int.natCast_zero] at ho ⊢
      by_cases hlt : k ≤ who.length
      · left
        have hwrap : ∀ x : Int, 0 ≤ x → x ≤ 18446744073709551615 → IntKind.u64.wrap x = x := fun x h h' => wrap_u64 h h'
        rw [show who.length + 1 - k = (who.length - k) + 1 by omega, nextF] at ho
        by_cases hov : f + k ≤ 18446744073709551615
        · have hm1 := Nat.mod_lt (f + k) (show 0 < who.length by omega)
          have e2 : ((f : Int) + k) % (who.length : Int) = (((f + k) % who.length : Nat) : Int) := rfl
          obtain ⟨b1, o1, i1, g1, v1⟩ := sl_intu h.sw (i := (((f + k) % who.length : Nat) : Int)) (by omega) (x := who[(f + k) % who.length]) (by rw [Int.toNat_natCast]; exact List.getElem?_eq_getElem hm1)
          have hq := List.getElem?_eq_getElem hm1
          by_cases hpp : who[(f + k) % who.length] = part
          · rw [if_pos ⟨hov, by rw [hq, hpp]⟩] at ho
            refine ⟨who.length + 1 - (k + 1), _, H', ?_, by omega, rfl, k + 1, some (f + k), rfl, by omega, by omega, ho, rfl⟩
            simp (disch := omega) only [bindS, boolKT, boolKF, natK0, natK1, natK2, natK3, natKS, chkKT, bin_add, bin_sub, bin_mul, bin_eql, bin_neq, bin_lss, bin_leq, bin_gtr, bin_geq, un_not, un_neg, conv_int, min_op, max_op, extract_nth, load_one, load_agg, agg_some, field_ptr, len_slice, len_str, len_arr, nil_check, nil_check_f, callTo_func, pick_true, pick_false, cells_agg, cells_int, cells_ptr, cells_slice, cells_bool, cells_str, push_box, getT_zero, getT_succ, List.getElem?_cons_zero, List.getElem?_cons_succ, List.cons_append, List.nil_append, Bool.not_true, Bool.not_false, ne_eq, not_true_eq_false, decide_false, decide_true, not_false_eq_true, Nat.add_zero, Nat.zero_add, new_box, fill_box1, fill_box1s, fill_box1p, fill_box1b, ↓reduceIte, List.all_cons, List.all_nil, Bool.and_true, Bool.and_self, one_int, one_ptr, one_slice, one_bool, one_str, one_nil, one_iface, List.length_cons, List.length_nil, boolK_pos, boolK_neg, boolK_npos, boolK_nneg, wrap_i64, wrap_u64, wrap_u8, wrap_u32, pick_pos, pick_neg, bin_quo_nn, bin_rem_nn, bin_shr1, cell_at h.hpt, e2, i1, g1]
            try rfl
          · rw [if_neg (by rw [hq]; intro h; exact hpp (Option.some.inj h.2))] at ho
            refine ⟨who.length + 1 - (k + 1), _, H', ?_, by omega, rfl, k + 1, none, rfl, by omega, by omega, by simp only; rw [ho]; congr 1; omega, rfl⟩
            simp (disch := omega) only [bindS, boolKT, boolKF, natK0, natK1, natK2, natK3, natKS, chkKT, bin_add, bin_sub, bin_mul, bin_eql, bin_neq, bin_lss, bin_leq, bin_gtr, bin_geq, un_not, un_neg, conv_int, min_op, max_op, extract_nth, load_one, load_agg, agg_some, field_ptr, len_slice, len_str, len_arr, nil_check, nil_check_f, callTo_func, pick_true, pick_false, cells_agg, cells_int, cells_ptr, cells_slice, cells_bool, cells_str, push_box, getT_zero, getT_succ, List.getElem?_cons_zero, List.getElem?_cons_succ, List.cons_append, List.nil_append, Bool.not_true, Bool.not_false, ne_eq, not_true_eq_false, decide_false, decide_true, not_false_eq_true, Nat.add_zero, Nat.zero_add, new_box, fill_box1, fill_box1s, fill_box1p, fill_box1b, ↓reduceIte, List.all_cons, List.all_nil, Bool.and_true, Bool.and_self, one_int, one_ptr, one_slice, one_bool, one_str, one_nil, one_iface, List.length_cons, List.length_nil, boolK_pos, boolK_neg, boolK_npos, boolK_nneg, wrap_i64, wrap_u64, wrap_u8, wrap_u32, pick_pos, pick_neg, bin_quo_nn, bin_rem_nn, bin_shr1, cell_at h.hpt, e2, i1, g1]
            try rfl
        · rw [if_neg (by omega)] at ho
          refine ⟨who.length + 1 - (k + 1), _, H', ?_, by omega, rfl, k + 1, none, rfl, by omega, by omega, by simp only; rw [ho]; congr 1; omega, rfl⟩
          have hwr : IntKind.u64.wrap ((f : Int) + k) = f + k - 18446744073709551616 := by rw [wrap_u64_mod]; omega
          simp (disch := omega) only [bindS, boolKT, boolKF, natK0, natK1, natK2, natK3, natKS, chkKT, bin_add, bin_sub, bin_mul, bin_eql, bin_neq, bin_lss, bin_leq, bin_gtr, bin_geq, un_not, un_neg, conv_int, min_op, max_op, extract_nth, load_one, load_agg, agg_some, field_ptr, len_slice, len_str, len_arr, nil_check, nil_check_f, callTo_func, pick_true, pick_false, cells_agg, cells_int, cells_ptr, cells_slice, cells_bool, cells_str, push_box, getT_zero, getT_succ, List.getElem?_cons_zero, List.getElem?_cons_succ, List.cons_append, List.nil_append, Bool.not_true, Bool.not_false, ne_eq, not_true_eq_false, decide_false, decide_true, not_false_eq_true, Nat.add_zero, Nat.zero_add, new_box, fill_box1, fill_box1s, fill_box1p, fill_box1b, ↓reduceIte, List.all_cons, List.all_nil, Bool.and_true, Bool.and_self, one_int, one_ptr, one_slice, one_bool, one_str, one_nil, one_iface, List.length_cons, List.length_nil, boolK_pos, boolK_neg, boolK_npos, boolK_nneg, wrap_i64, wrap_u64, wrap_u8, wrap_u32, pick_pos, pick_neg, bin_quo_nn, bin_rem_nn, bin_shr1, cell_at h.hpt, hwr]
          try rfl
      · right
        obtain rfl : k = who.length + 1 := by omega
        rw [Nat.sub_self, nextF] at ho
        refine ⟨0, [s1, s2, s3, s4, s5, s6, s14, s15, .pointer (some ⟨pt, 0, none⟩), sw, sk, .int .u64 f, .int .i64 part, .int .u64 ((nextF who part f who.length 1).getD 0 : Nat), .bool (nextF who part f who.length 1).isSome, .int .i64 ((who.length + 1 : Nat) : Int), s150, s151, s152], H', ?_, rfl, rfl, _, rfl⟩
        rw [ho]
        simp (disch := omega) only [bindS, boolKT, boolKF, natK0, natK1, natK2, natK3, natKS, chkKT, bin_add, bin_sub, bin_mul, bin_eql, bin_neq, bin_lss, bin_leq, bin_gtr, bin_geq, un_not, un_neg, conv_int, min_op, max_op, extract_nth, load_one, load_agg, agg_some, field_ptr, len_slice, len_str, len_arr, nil_check, nil_check_f, callTo_func, pick_true, pick_false, cells_agg, cells_int, cells_ptr, cells_slice, cells_bool, cells_str, push_box, getT_zero, getT_succ, List.getElem?_cons_zero, List.getElem?_cons_succ, List.cons_append, List.nil_append, Bool.not_true, Bool.not_false, ne_eq, not_true_eq_false, decide_false, decide_true, not_false_eq_true, Nat.add_zero, Nat.zero_add, new_box, fill_box1, fill_box1s, fill_box1p, fill_box1b, ↓reduceIte, List.all_cons, List.all_nil, Bool.and_true, Bool.and_self, one_int, one_ptr, one_slice, one_bool, one_str, one_nil, one_iface, List.length_cons, List.length_nil, boolK_pos, boolK_neg, boolK_npos, boolK_nneg, wrap_i64, wrap_u64, wrap_u8, wrap_u32, pick_pos, pick_neg, bin_quo_nn, bin_rem_nn, bin_shr1, cell_at h.hpt]
        try rfl)
    who.length rounds _ H ⟨rfl, 1, none, by omega, by omega, by omega, by simp only; congr 1, rfl⟩ (lt_rounds (by omega))
  exact ⟨k, e⟩

/-- Each partition. -/
theorem l35 {m : Nat} (hm : 5 ≤ m) (h : CK H pt sl sw sk ws who which) {f : Nat} (hf : f ≤ 18446744073709551615) (s1 s2 s3 s4 s5 s6 s14 s15 s150 s151 s152 : Value) :
    ∃ H', iterL (tt3l35b (ttD m)) rounds [s1, s2, s3, s4, s5, s6, s14, s15, .pointer (some ⟨pt, 0, none⟩), sw, sk, .int .u64 f, .int .i64 0, s150, s151, s152] H =
      some (0, [s1, s2, s3, s4, s5, s6, s14, s15, .pointer (some ⟨pt, 0, none⟩), sw, sk, .int .u64 f, .int .i64 5, s150, s151, s152], H') ∧ Ext H H' := by
  have hle := h.tab.le
  have hpos := h.tab.pos
  obtain ⟨j, vs', H', e, rfl, rfl, hx⟩ := iter_inv (b := tt3l35b (ttD m)) (I := fun d vs H' => Ext H H' ∧ ∃ p : Nat, d = 5 - p ∧ p ≤ 5 ∧
      vs = [s1, s2, s3, s4, s5, s6, s14, s15, .pointer (some ⟨pt, 0, none⟩), sw, sk, .int .u64 f, .int .i64 (p : Int), s150, s151, s152])
    (Q := fun j vs H' => j = 0 ∧ vs = [s1, s2, s3, s4, s5, s6, s14, s15, .pointer (some ⟨pt, 0, none⟩), sw, sk, .int .u64 f, .int .i64 5, s150, s151, s152] ∧ Ext H H') (by
    rintro d vs H' ⟨hx, p, rfl, hp, rfl⟩
    have h0 := h.ext hx
    by_cases hlt : p < 5
    · left
      obtain ⟨k, e39⟩ := l39 (m := m) h0 hf (p : Int) s1 s2 s3 s4 s5 s6 s14 s15 s150 s151 s152
      obtain ⟨H1, c1, x1⟩ := s9 (m := m) (by omega) h0.tab (part := (p : Int)) (by omega) hf
      have h1 := h0.ext x1
      obtain ⟨H2, c2, x2⟩ := s10 (m := m) (by omega) h1.tab (part := (p : Int)) (by omega) hf
      have h2 := h1.ext x2
      have c3 := s11 (m := m) (by omega) h2.sw hpos hle (part := (p : Int)) hf
      obtain ⟨H3, c4, x3⟩ := s12 (m := m) (by omega) h2.tab (part := (p : Int)) (by omega)
      have h3 := h2.ext x3
      have c5 := s11 (m := m) (by omega) h3.sw hpos hle (part := (p : Int)) (t := who.length) (by omega)
      have hsh : turnsL who (p : Int) who.length who.length = cnt p who who.length := by
        rw [turnsL_all _ _ _ (by omega), Nat.div_self (by omega), Nat.mod_self, cnt_zero]; omega
      rw [hsh] at c5
      have hcl := cnt_le (p : Int) who who.length
      have r0 := cells_at h0.hpt (o := 0) (n := 2) (by simp)
      have r1 := cells_at h1.hpt (o := 0) (n := 2) (by simp)
      have r2 := cells_at h2.hpt (o := 0) (n := 2) (by simp)
      refine ⟨5 - (p + 1), _, H3, ?_, by omega, ((hx.trans x1).trans x2).trans x3, p + 1, rfl, by omega, rfl⟩
      unfold tt3l35b tt3l35
      simp (disch := omega) only [bindS, boolKT, boolKF, natK0, natK1, natK2, natK3, natKS, chkKT, bin_add, bin_sub, bin_mul, bin_eql, bin_neq, bin_lss, bin_leq, bin_gtr, bin_geq, un_not, un_neg, conv_int, min_op, max_op, extract_nth, load_one, load_agg, agg_some, field_ptr, len_slice, len_str, len_arr, nil_check, nil_check_f, callTo_func, pick_true, pick_false, cells_agg, cells_int, cells_ptr, cells_slice, cells_bool, cells_str, push_box, getT_zero, getT_succ, List.getElem?_cons_zero, List.getElem?_cons_succ, List.cons_append, List.nil_append, Bool.not_true, Bool.not_false, ne_eq, not_true_eq_false, decide_false, decide_true, not_false_eq_true, Nat.add_zero, Nat.zero_add, new_box, fill_box1, fill_box1s, fill_box1p, fill_box1b, ↓reduceIte, List.all_cons, List.all_nil, Bool.and_true, Bool.and_self, one_int, one_ptr, one_slice, one_bool, one_str, one_nil, one_iface, List.length_cons, List.length_nil, boolK_pos, boolK_neg, boolK_npos, boolK_nneg, wrap_i64, wrap_u64, wrap_u8, wrap_u32, pick_pos, pick_neg, bin_quo_nn, bin_rem_nn, bin_shr1]
      rw [e39]
      simp (disch := omega) only [bindS, boolKT, boolKF, natK0, natK1, natK2, natK3, natKS, chkKT, bin_add, bin_sub, bin_mul, bin_eql, bin_neq, bin_lss, bin_leq, bin_gtr, bin_geq, un_not, un_neg, conv_int, min_op, max_op, extract_nth, load_one, load_agg, agg_some, field_ptr, len_slice, len_str, len_arr, nil_check, nil_check_f, callTo_func, pick_true, pick_false, cells_agg, cells_int, cells_ptr, cells_slice, cells_bool, cells_str, push_box, getT_zero, getT_succ, List.getElem?_cons_zero, List.getElem?_cons_succ, List.cons_append, List.nil_append, Bool.not_true, Bool.not_false, ne_eq, not_true_eq_false, decide_false, decide_true, not_false_eq_true, Nat.add_zero, Nat.zero_add, new_box, fill_box1, fill_box1s, fill_box1p, fill_box1b, ↓reduceIte, List.all_cons, List.all_nil, Bool.and_true, Bool.and_self, one_int, one_ptr, one_slice, one_bool, one_str, one_nil, one_iface, List.length_cons, List.length_nil, boolK_pos, boolK_neg, boolK_npos, boolK_nneg, wrap_i64, wrap_u64, wrap_u8, wrap_u32, pick_pos, pick_neg, bin_quo_nn, bin_rem_nn, bin_shr1, r0, r1, r2, List.drop_zero, List.take_succ_cons, List.take_zero, c1, nextV, bool_neq _ _ _ dk4, beq_self_eq_true, c2, c3, cell_at h2.hpt, cell_at h3.hpt, c4, same_int, c5]
      try rfl
    · right
      obtain rfl : p = 5 := by omega
      refine ⟨0, _, H', ?_, rfl, rfl, hx⟩
      unfold tt3l35b tt3l35
      simp (disch := omega) only [bindS, boolKT, boolKF, natK0, natK1, natK2, natK3, natKS, chkKT, bin_add, bin_sub, bin_mul, bin_eql, bin_neq, bin_lss, bin_leq, bin_gtr, bin_geq, un_not, un_neg, conv_int, min_op, max_op, extract_nth, load_one, load_agg, agg_some, field_ptr, len_slice, len_str, len_arr, nil_check, nil_check_f, callTo_func, pick_true, pick_false, cells_agg, cells_int, cells_ptr, cells_slice, cells_bool, cells_str, push_box, getT_zero, getT_succ, List.getElem?_cons_zero, List.getElem?_cons_succ, List.cons_append, List.nil_append, Bool.not_true, Bool.not_false, ne_eq, not_true_eq_false, decide_false, decide_true, not_false_eq_true, Nat.add_zero, Nat.zero_add, new_box, fill_box1, fill_box1s, fill_box1p, fill_box1b, ↓reduceIte, List.all_cons, List.all_nil, Bool.and_true, Bool.and_self, one_int, one_ptr, one_slice, one_bool, one_str, one_nil, one_iface, List.length_cons, List.length_nil, boolK_pos, boolK_neg, boolK_npos, boolK_nneg, wrap_i64, wrap_u64, wrap_u8, wrap_u32, pick_pos, pick_neg, bin_quo_nn, bin_rem_nn, bin_shr1]
      try rfl)
    5 rounds _ H ⟨Mod.refl, 0, by omega, by omega, rfl⟩ (lt_rounds (by omega))
  exact ⟨H', e, hx⟩

def ucell (x : Int) : List Value := [.int .u64 x]
theorem ucell_len (x : Int) : (ucell x).length = 1 := rfl
theorem ucell_one (x : Int) : (ucell x).all oneCell = true := rfl
theorem sl_u {H : AHeap} {v : Value} {l : List Int} (h : Sl H v 1 ucell l) {i : Int} {x : Int} (h0 : 0 ≤ i) (hx : l[i.toNat]? = some x) : ∃ b o, indexPtr (some (none, 1)) v (.int .i64 i) = some (.pointer (some ⟨b, o, none⟩)) ∧ H.cell ⟨b, o, none⟩ = some (.int .u64 x) ∧ vblk v = some b := by
  obtain ⟨b, o, c, e1, e0, _, _, _, e3⟩ := h.at ucell_len h0 hx .i64
  have := e3 0 (by omega)
  exact ⟨b, o, e1, by simpa [ucell] using this, e0⟩

/-- From three ticks on. -/
theorem l25 {m : Nat} (hm : 5 ≤ m) (h : CK H pt sl sw sk ws who which) {fs : List Nat} (hfs : ∀ f ∈ fs, f ≤ 18446744073709551615) {v150 : Value} (h150 : Sl H v150 1 ucell (fs.map fun (f : Nat) => (f : Int))) (hl : fs.length ≤ 10) (s1 s2 s3 s4 s5 s6 s14 s15 : Value) :
    ∃ H', iterL (tt3l25b (ttD m)) rounds [s1, s2, s3, s4, s5, s6, s14, s15, .pointer (some ⟨pt, 0, none⟩), sw, sk, v150, .int .i64 fs.length, .int .i64 0] H =
      some (0, [s1, s2, s3, s4, s5, s6, s14, s15, .pointer (some ⟨pt, 0, none⟩), sw, sk, v150, .int .i64 fs.length, .int .i64 fs.length], H') ∧ Ext H H' := by
  obtain ⟨j, vs', H', e, rfl, rfl, hx⟩ := iter_inv (b := tt3l25b (ttD m)) (I := fun d vs H' => Ext H H' ∧ ∃ i : Nat, d = fs.length - i ∧ i ≤ fs.length ∧
      vs = [s1, s2, s3, s4, s5, s6, s14, s15, .pointer (some ⟨pt, 0, none⟩), sw, sk, v150, .int .i64 fs.length, .int .i64 (i : Int)])
    (Q := fun j vs H' => j = 0 ∧ vs = [s1, s2, s3, s4, s5, s6, s14, s15, .pointer (some ⟨pt, 0, none⟩), sw, sk, v150, .int .i64 fs.length, .int .i64 fs.length] ∧ Ext H H') (by
    rintro d vs H' ⟨hx, i, rfl, hi, rfl⟩
    have h0 := h.ext hx
    by_cases hlt : i < fs.length
    · left
      obtain ⟨b1, o1, i1, g1, v1⟩ := sl_u (h150.ext hx) (i := (i : Int)) (by omega) (x := (fs[i] : Int)) (by simp [List.getElem?_eq_getElem hlt])
      obtain ⟨H1, e1, x1⟩ := l28 hm h0 (hfs _ (List.getElem_mem hlt)) s1 s2 s3 s4 s5 s6 s14 s15 v150 (.int .i64 fs.length) (.int .i64 (i : Int))
      obtain ⟨H2, e2, x2⟩ := l35 hm (h0.ext x1) (hfs _ (List.getElem_mem hlt)) s1 s2 s3 s4 s5 s6 s14 s15 v150 (.int .i64 fs.length) (.int .i64 (i : Int))
      refine ⟨fs.length - (i + 1), _, H2, ?_, by omega, (hx.trans x1).trans x2, i + 1, rfl, by omega, rfl⟩
      unfold tt3l25b tt3l25
      simp (disch := omega) only [bindS, boolKT, boolKF, natK0, natK1, natK2, natK3, natKS, chkKT, bin_add, bin_sub, bin_mul, bin_eql, bin_neq, bin_lss, bin_leq, bin_gtr, bin_geq, un_not, un_neg, conv_int, min_op, max_op, extract_nth, load_one, load_agg, agg_some, field_ptr, len_slice, len_str, len_arr, nil_check, nil_check_f, callTo_func, pick_true, pick_false, cells_agg, cells_int, cells_ptr, cells_slice, cells_bool, cells_str, push_box, getT_zero, getT_succ, List.getElem?_cons_zero, List.getElem?_cons_succ, List.cons_append, List.nil_append, Bool.not_true, Bool.not_false, ne_eq, not_true_eq_false, decide_false, decide_true, not_false_eq_true, Nat.add_zero, Nat.zero_add, new_box, fill_box1, fill_box1s, fill_box1p, fill_box1b, ↓reduceIte, List.all_cons, List.all_nil, Bool.and_true, Bool.and_self, one_int, one_ptr, one_slice, one_bool, one_str, one_nil, one_iface, List.length_cons, List.length_nil, boolK_pos, boolK_neg, boolK_npos, boolK_nneg, wrap_i64, wrap_u64, wrap_u8, wrap_u32, pick_pos, pick_neg, bin_quo_nn, bin_rem_nn, bin_shr1, i1, g1]
      rw [e1]
      simp (disch := omega) only [bindS, boolKT, boolKF, natK0, natK1, natK2, natK3, natKS, chkKT, bin_add, bin_sub, bin_mul, bin_eql, bin_neq, bin_lss, bin_leq, bin_gtr, bin_geq, un_not, un_neg, conv_int, min_op, max_op, extract_nth, load_one, load_agg, agg_some, field_ptr, len_slice, len_str, len_arr, nil_check, nil_check_f, callTo_func, pick_true, pick_false, cells_agg, cells_int, cells_ptr, cells_slice, cells_bool, cells_str, push_box, getT_zero, getT_succ, List.getElem?_cons_zero, List.getElem?_cons_succ, List.cons_append, List.nil_append, Bool.not_true, Bool.not_false, ne_eq, not_true_eq_false, decide_false, decide_true, not_false_eq_true, Nat.add_zero, Nat.zero_add, new_box, fill_box1, fill_box1s, fill_box1p, fill_box1b, ↓reduceIte, List.all_cons, List.all_nil, Bool.and_true, Bool.and_self, one_int, one_ptr, one_slice, one_bool, one_str, one_nil, one_iface, List.length_cons, List.length_nil, boolK_pos, boolK_neg, boolK_npos, boolK_nneg, wrap_i64, wrap_u64, wrap_u8, wrap_u32, pick_pos, pick_neg, bin_quo_nn, bin_rem_nn, bin_shr1]
      rw [e2]
      simp (disch := omega) only [bindS, boolKT, boolKF, natK0, natK1, natK2, natK3, natKS, chkKT, bin_add, bin_sub, bin_mul, bin_eql, bin_neq, bin_lss, bin_leq, bin_gtr, bin_geq, un_not, un_neg, conv_int, min_op, max_op, extract_nth, load_one, load_agg, agg_some, field_ptr, len_slice, len_str, len_arr, nil_check, nil_check_f, callTo_func, pick_true, pick_false, cells_agg, cells_int, cells_ptr, cells_slice, cells_bool, cells_str, push_box, getT_zero, getT_succ, List.getElem?_cons_zero, List.getElem?_cons_succ, List.cons_append, List.nil_append, Bool.not_true, Bool.not_false, ne_eq, not_true_eq_false, decide_false, decide_true, not_false_eq_true, Nat.add_zero, Nat.zero_add, new_box, fill_box1, fill_box1s, fill_box1p, fill_box1b, ↓reduceIte, List.all_cons, List.all_nil, Bool.and_true, Bool.and_self, one_int, one_ptr, one_slice, one_bool, one_str, one_nil, one_iface, List.length_cons, List.length_nil, boolK_pos, boolK_neg, boolK_npos, boolK_nneg, wrap_i64, wrap_u64, wrap_u8, wrap_u32, pick_pos, pick_neg, bin_quo_nn, bin_rem_nn, bin_shr1]
      try rfl
    · right
      obtain rfl : i = fs.length := by omega
      refine ⟨0, _, H', ?_, rfl, rfl, hx⟩
      unfold tt3l25b tt3l25
      simp (disch := omega) only [bindS, boolKT, boolKF, natK0, natK1, natK2, natK3, natKS, chkKT, bin_add, bin_sub, bin_mul, bin_eql, bin_neq, bin_lss, bin_leq, bin_gtr, bin_geq, un_not, un_neg, conv_int, min_op, max_op, extract_nth, load_one, load_agg, agg_some, field_ptr, len_slice, len_str, len_arr, nil_check, nil_check_f, callTo_func, pick_true, pick_false, cells_agg, cells_int, cells_ptr, cells_slice, cells_bool, cells_str, push_box, getT_zero, getT_succ, List.getElem?_cons_zero, List.getElem?_cons_succ, List.cons_append, List.nil_append, Bool.not_true, Bool.not_false, ne_eq, not_true_eq_false, decide_false, decide_true, not_false_eq_true, Nat.add_zero, Nat.zero_add, new_box, fill_box1, fill_box1s, fill_box1p, fill_box1b, ↓reduceIte, List.all_cons, List.all_nil, Bool.and_true, Bool.and_self, one_int, one_ptr, one_slice, one_bool, one_str, one_nil, one_iface, List.length_cons, List.length_nil, boolK_pos, boolK_neg, boolK_npos, boolK_nneg, wrap_i64, wrap_u64, wrap_u8, wrap_u32, pick_pos, pick_neg, bin_quo_nn, bin_rem_nn, bin_shr1]
      )
    fs.length rounds _ H ⟨Mod.refl, 0, by omega, by omega, rfl⟩ (lt_rounds (by omega))
  exact ⟨H', e, hx⟩
end
end Go.Abs
