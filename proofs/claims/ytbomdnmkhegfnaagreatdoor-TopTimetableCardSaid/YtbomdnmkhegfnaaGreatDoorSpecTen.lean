/-
  THE LAW IS TRUE, on the machine.
-/
import Derived.Test.YtbomdnmkhegfnaaGreatDoorSpecNine
set_option linter.all false
namespace Go.Abs
open Go.Proofs Go.Tt

theorem rounds_80 : 80 < rounds := by unfold rounds; omega

section
variable {B : Nat} {H0 H : AHeap} {pt bc bl T : Nat} {tsl : Value} {c : Chan} {rate burst : Int}

theorem c57 {m : Nat} (hm : 2 ≤ m) (h : ML B H pt bc bl T tsl c [] [] rate burst burst (.slice none 0 0) (.slice none 0 0) []) (hT : 1 ≤ T ∧ T ≤ 256) {kind most size : Int} (hk : ChK c kind most size 0 []) {s5 : Value} {al : List Sp} (hA : Sl H s5 4 spcells al)
    (hB : ∀ b, vblk s5 = some b → b < B) (hin : ∀ a ∈ al, SpIn a) {far : Nat} (hf : far ≤ 18446744073709551615) :
    ∃ H', tt3c57 (ttD m) (.int .i64 kind) (.int .i64 most) (.int .i64 size) (.int .i64 rate) s5 (.int .u64 far) (.bool true) (.pointer (some ⟨pt, 0, none⟩)) (.int .i64 burst) (.pointer (some ⟨bc, 0, none⟩)) (.pointer (some ⟨bl, 0, none⟩)) H = some (.bool true, H') := by
  obtain ⟨H1, bc1, c1, q1, left1, lost1, vr1, vw1, rv1, now1, i1, e1, g1, g2⟩ := l62 hm hT hA hB hin undef (.bool true) (K := 9223372036854775808) (by omega) (min al.length 80) (i := 0) (now := far / 2) (lost := 0) (by omega) Mod.refl h hk (by omega) (by omega) rounds (by have := rounds_80; omega)
  have e20 := s20 (m := m) (by omega) g1.hc g1.hq.1
  have x1 := ext_boxed H1 (zeroC Tryz.prog 105) c1.cells
  have e25 := s25 (m := m) (by omega) (g1.hc.ext x1) (has_boxed H1 (zeroC Tryz.prog 105) c1.cells) g1.hq (by have := g2.qm; have := g2.m0; omega)
  refine ⟨boxed H1 (zeroC Tryz.prog 105) c1.cells, ?_⟩
  unfold tt3c57
  rw [bin_shr1 _ _ _ _ _ _ (by omega)]
  simp only [Option.bind_some]
  rw [show iterL (tt3l62b (ttD m)) rounds [.int .i64 kind, .int .i64 most, .int .i64 size, .int .i64 rate, s5, undef, .bool true, .pointer (some ⟨pt, 0, none⟩), .int .i64 burst, .pointer (some ⟨bc, 0, none⟩), .pointer (some ⟨bl, 0, none⟩), .int .i64 burst, .int .u64 0, .slice none 0 0, .slice none 0 0, .int .u64 ((far : Int) / 2), .int .i64 0] H = _ from e1]
  simp only [bindS, boolKT, boolKF, natK0, natK1, natK2, natK3, natKS, chkKT, bin_add, bin_sub, bin_mul, bin_eql, bin_neq, bin_lss, bin_leq, bin_gtr, bin_geq, un_not, un_neg, conv_int, min_op, max_op, extract_nth, load_one, load_agg, agg_some, field_ptr, len_slice, len_str, len_arr, nil_check, nil_check_f, callTo_func, pick_true, pick_false, cells_agg, cells_int, cells_ptr, cells_slice, cells_bool, cells_str, push_box, getT_zero, getT_succ, List.getElem?_cons_zero, List.getElem?_cons_succ, List.cons_append, List.nil_append, Bool.not_true, Bool.not_false, ne_eq, not_true_eq_false, decide_false, decide_true, not_false_eq_true, Nat.add_zero, Nat.zero_add, new_box, fill_box1, fill_box1s, fill_box1p, fill_box1b, ↓reduceIte, List.all_cons, List.all_nil, Bool.and_true, Bool.and_self, one_int, one_ptr, one_slice, one_bool, one_str, one_nil, one_iface, List.length_cons, List.length_nil, boolK_pos, boolK_neg, boolK_npos, boolK_nneg, wrap_i64, wrap_u64, wrap_u8, wrap_u32, pick_pos, pick_neg, bin_quo_nn, bin_rem_nn, bin_shr1, e20, e25]

theorem c55 {m : Nat} (hm : 2 ≤ m) (h : ML B H pt bc bl T tsl c [] [] rate burst burst (.slice none 0 0) (.slice none 0 0) []) (hT : 1 ≤ T ∧ T ≤ 256) {kind most size : Int} (hk : ChK c kind most size 0 []) {s5 : Value} {al : List Sp} (hA : Sl H s5 4 spcells al)
    (hB : ∀ b, vblk s5 = some b → b < B) (hin : ∀ a ∈ al, SpIn a) {far : Nat} (hf : far ≤ 18446744073709551615) :
    ∃ H', tt3c55 (ttD m) (.int .i64 kind) (.int .i64 most) (.int .i64 size) (.int .i64 rate) s5 (.int .u64 far) (.bool true) (.pointer (some ⟨pt, 0, none⟩)) (.int .i64 burst) (.pointer (some ⟨bc, 0, none⟩)) (.int .i64 0) (.pointer (some ⟨bl, 0, none⟩)) (.int .i64 0) H = some (.bool true, H') := by
  obtain ⟨H', e⟩ := c57 hm h hT hk hA hB hin hf
  refine ⟨H', ?_⟩
  rw [← e]
  have e16 := s16 (m := m) (by omega) h.hc
  rw [hk.ek] at e16
  have hn : binA Tryz.prog .neq 50 (.tmp 304) (.tmp 308) (.agg (capL rate burst burst).toArray) (.agg (capL rate burst burst).toArray) = some (.bool false) := neq50 _ _ rate burst burst
  have hb : buildA (buildT Tryz.prog 50) [(0, .int .i64 rate), (1, .int .i64 burst), (2, .int .i64 burst)] = some (.agg (capL rate burst burst).toArray) := build50 _ _ _
  unfold tt3c55
  simp (disch := omega) only [bindS, boolKT, boolKF, natK0, natK1, natK2, natK3, natKS, chkKT, bin_add, bin_sub, bin_mul, bin_eql, bin_neq, bin_lss, bin_leq, bin_gtr, bin_geq, un_not, un_neg, conv_int, min_op, max_op, extract_nth, load_one, load_agg, agg_some, field_ptr, len_slice, len_str, len_arr, nil_check, nil_check_f, callTo_func, pick_true, pick_false, cells_agg, cells_int, cells_ptr, cells_slice, cells_bool, cells_str, push_box, getT_zero, getT_succ, List.getElem?_cons_zero, List.getElem?_cons_succ, List.cons_append, List.nil_append, Bool.not_true, Bool.not_false, ne_eq, not_true_eq_false, decide_false, decide_true, not_false_eq_true, Nat.add_zero, Nat.zero_add, new_box, fill_box1, fill_box1s, fill_box1p, fill_box1b, ↓reduceIte, List.all_cons, List.all_nil, Bool.and_true, Bool.and_self, one_int, one_ptr, one_slice, one_bool, one_str, one_nil, one_iface, List.length_cons, List.length_nil, boolK_pos, boolK_neg, boolK_npos, boolK_nneg, wrap_i64, wrap_u64, wrap_u8, wrap_u32, pick_pos, pick_neg, bin_quo_nn, bin_rem_nn, bin_shr1, ptr_eq_nil _ _ _ dk45, Option.isNone_some, cells_all (n := 3) h.hl.row rfl, hb, hn, e16]
  rw [tt3c57_tie]
  simp only [getT_zero, getT_succ]

theorem j393 {m : Nat} (hm : 2 ≤ m) (hpt : Row H pt [.int .i64 T, tsl]) (hT : 1 ≤ T ∧ T ≤ 256) {kind most size : Int} (k0 : 0 ≤ kind ∧ kind ≤ 2) (m0 : 1 ≤ most ∧ most ≤ 5) (s0 : 0 ≤ size ∧ size ≤ 64) (km : kind = 0 → most = 1) (hr : 0 ≤ rate ∧ rate ≤ 4) {s5 : Value} {al : List Sp} (hA : Sl H s5 4 spcells al)
    (hBp : B ≤ pt) (hBn : B ≤ H.next) (hB : ∀ b, vblk s5 = some b → b < B) (hin : ∀ a ∈ al, SpIn a) {far : Nat} (hf : far ≤ 18446744073709551615) :
    ∃ H', tt3j393 (ttD m) (.int .i64 kind) (.int .i64 most) (.int .i64 size) (.int .i64 rate) s5 (.int .u64 far) (.bool true) (.pointer (some ⟨pt, 0, none⟩)) H = some (.bool true, H') := by
  obtain ⟨y, y0, y1, e13⟩ := s13 (m := m) (by omega) (H := H) (x := (far : Int)) (by omega)
  have e5 := Go.Abs.s5 (m := m) (by omega) (x := y) (show In64 y from ⟨by omega, by omega⟩) (show (0 : Int) < 4 by omega) H
  have z0 := sparOf_nn (x := y) (show (0 : Int) < 4 by omega)
  have z1 := sparOf_lt (x := y) (show (0 : Int) < 4 by omega)
  generalize sparOf y 4 = z at *
  have e14 := s14 (m := m) (by omega) (H := H) k0 (show 1 ≤ most ∧ most ≤ 16 from ⟨m0.1, by omega⟩) km s0
  have hc := has_box H (Chan.cells ⟨kind, most, size, List.replicate 16 zMsg, 0, 0, 0⟩)
  have x1 := ext_box H (Chan.cells ⟨kind, most, size, List.replicate 16 zMsg, 0, 0, 0⟩)
  have hcap : CapOk rate (rate + z) (rate + z) := ⟨hr.1, by omega, by omega, by omega, by omega⟩
  obtain ⟨H2, e15, x2⟩ := s15 (m := m) hm (H := box H (Chan.cells ⟨kind, most, size, List.replicate 16 zMsg, 0, 0, 0⟩)) hcap
  have hfb := fill_box H2 z3 (capL rate (rate + z) (rate + z)) 3 rfl
  have x3 := ext_boxed H2 z3 (capL rate (rate + z) (rate + z))
  have hl := has_boxed H2 z3 (capL rate (rate + z) (rate + z))
  have hx : Ext H (boxed H2 z3 (capL rate (rate + z) (rate + z))) := (x1.trans x2).trans x3
  have n1 : H.next + 1 ≤ H2.next := x2.1
  have hpn := hpt.1
  have ml : ML B (boxed H2 z3 (capL rate (rate + z) (rate + z))) pt H.next H2.next T tsl ⟨kind, most, size, List.replicate 16 zMsg, 0, 0, 0⟩ [] [] rate (rate + z) (rate + z) (.slice none 0 0) (.slice none 0 0) [] :=
    { hpt := hpt.ext hx, hc := (hc.ext x2).ext x3, hq := ⟨by simp, by simp, rfl, fun i bs t hi => by simp at hi⟩, hl := hl, cap := hcap, hr := Own.nil _ _ _, hw := Own.nil _ _ _, len := rfl, rows := fun i x bs t h1 => by simp at h1,
      times := fun e he => by simp at he, bB := ⟨hBn, by omega, hBp⟩, dcl := by omega, dcp := by omega, dlp := by omega, dr := fun b hb => by simp [vblk] at hb, dw := fun b hb => by simp [vblk] at hb, dx := fun x hx => by simp at hx }
  have hk : ChK ⟨kind, most, size, List.replicate 16 zMsg, 0, 0, 0⟩ kind most size 0 [] := ⟨rfl, rfl, rfl, rfl, k0, m0, s0, km, by simp; omega, by omega⟩
  obtain ⟨H', e⟩ := c55 hm ml hT hk (hA.ext hx) hB hin hf
  refine ⟨H', ?_⟩
  rw [← e]
  clear ml hk hx x1 x2 x3 n1 hl hc hcap e
  generalize ttD m = C at *
  generalize box H (Chan.cells ⟨kind, most, size, List.replicate 16 zMsg, 0, 0, 0⟩) = Hc at *
  unfold tt3j393
  simp (disch := omega) only [bindS, boolKT, boolKF, natK0, natK1, natK2, natK3, natKS, chkKT, bin_add, bin_sub, bin_mul, bin_eql, bin_neq, bin_lss, bin_leq, bin_gtr, bin_geq, un_not, un_neg, conv_int, min_op, max_op, extract_nth, load_one, load_agg, agg_some, field_ptr, len_slice, len_str, len_arr, nil_check, nil_check_f, callTo_func, pick_true, pick_false, cells_agg, cells_int, cells_ptr, cells_slice, cells_bool, cells_str, push_box, getT_zero, getT_succ, List.getElem?_cons_zero, List.getElem?_cons_succ, List.cons_append, List.nil_append, Bool.not_true, Bool.not_false, ne_eq, not_true_eq_false, decide_false, decide_true, not_false_eq_true, Nat.add_zero, Nat.zero_add, new_box, fill_box1, fill_box1s, fill_box1p, fill_box1b, ↓reduceIte, List.all_cons, List.all_nil, Bool.and_true, Bool.and_self, one_int, one_ptr, one_slice, one_bool, one_str, one_nil, one_iface, List.length_cons, List.length_nil, boolK_pos, boolK_neg, boolK_npos, boolK_nneg, wrap_i64, wrap_u64, wrap_u8, wrap_u32, pick_pos, pick_neg, bin_quo_nn, bin_rem_nn, bin_shr1, e13, e5, e14, e15, hfb]
  rw [tt3c55_tie]
  simp only [getT_zero, getT_succ]

theorem c49 {m : Nat} (hm : 2 ≤ m) (hpt : Row H pt [.int .i64 T, tsl]) (hT : 1 ≤ T ∧ T ≤ 256) {kind most size : Int} (k0 : 0 ≤ kind ∧ kind ≤ 2) (hmo : In64 most) (s0 : 0 ≤ size ∧ size ≤ 64) (hr : 0 ≤ rate ∧ rate ≤ 4) {s5 : Value} {al : List Sp} (hA : Sl H s5 4 spcells al)
    (hBp : B ≤ pt) (hBn : B ≤ H.next) (hB : ∀ b, vblk s5 = some b → b < B) (hin : ∀ a ∈ al, SpIn a) {far : Nat} (hf : far ≤ 18446744073709551615) :
    ∃ H', tt3c49 (ttD m) (.int .i64 kind) (.int .i64 most) (.int .i64 size) (.int .i64 rate) s5 (.int .u64 far) (.bool true) (.pointer (some ⟨pt, 0, none⟩)) H = some (.bool true, H') := by
  have e5 := Go.Abs.s5 (m := m) (by omega) (x := most) hmo (show (0 : Int) < 5 by omega) H
  have z0 := sparOf_nn (x := most) (show (0 : Int) < 5 by omega)
  have z1 := sparOf_lt (x := most) (show (0 : Int) < 5 by omega)
  generalize sparOf most 5 = z at *
  by_cases hk : kind = 0
  · obtain ⟨H', e⟩ := j393 hm hpt hT k0 (most := 1) (by omega) s0 (fun _ => rfl) hr hA hBp hBn hB hin hf
    refine ⟨H', ?_⟩
    rw [← e]
    unfold tt3c49
    simp (disch := omega) only [bindS, boolKT, boolKF, natK0, natK1, natK2, natK3, natKS, chkKT, bin_add, bin_sub, bin_mul, bin_eql, bin_neq, bin_lss, bin_leq, bin_gtr, bin_geq, un_not, un_neg, conv_int, min_op, max_op, extract_nth, load_one, load_agg, agg_some, field_ptr, len_slice, len_str, len_arr, nil_check, nil_check_f, callTo_func, pick_true, pick_false, cells_agg, cells_int, cells_ptr, cells_slice, cells_bool, cells_str, push_box, getT_zero, getT_succ, List.getElem?_cons_zero, List.getElem?_cons_succ, List.cons_append, List.nil_append, Bool.not_true, Bool.not_false, ne_eq, not_true_eq_false, decide_false, decide_true, not_false_eq_true, Nat.add_zero, Nat.zero_add, new_box, fill_box1, fill_box1s, fill_box1p, fill_box1b, ↓reduceIte, List.all_cons, List.all_nil, Bool.and_true, Bool.and_self, one_int, one_ptr, one_slice, one_bool, one_str, one_nil, one_iface, List.length_cons, List.length_nil, boolK_pos, boolK_neg, boolK_npos, boolK_nneg, wrap_i64, wrap_u64, wrap_u8, wrap_u32, pick_pos, pick_neg, bin_quo_nn, bin_rem_nn, bin_shr1, e5]
  · obtain ⟨H', e⟩ := j393 hm hpt hT k0 (most := 1 + z) (by omega) s0 (fun h => absurd h hk) hr hA hBp hBn hB hin hf
    refine ⟨H', ?_⟩
    rw [← e]
    unfold tt3c49
    simp (disch := omega) only [bindS, boolKT, boolKF, natK0, natK1, natK2, natK3, natKS, chkKT, bin_add, bin_sub, bin_mul, bin_eql, bin_neq, bin_lss, bin_leq, bin_gtr, bin_geq, un_not, un_neg, conv_int, min_op, max_op, extract_nth, load_one, load_agg, agg_some, field_ptr, len_slice, len_str, len_arr, nil_check, nil_check_f, callTo_func, pick_true, pick_false, cells_agg, cells_int, cells_ptr, cells_slice, cells_bool, cells_str, push_box, getT_zero, getT_succ, List.getElem?_cons_zero, List.getElem?_cons_succ, List.cons_append, List.nil_append, Bool.not_true, Bool.not_false, ne_eq, not_true_eq_false, decide_false, decide_true, not_false_eq_true, Nat.add_zero, Nat.zero_add, new_box, fill_box1, fill_box1s, fill_box1p, fill_box1b, ↓reduceIte, List.all_cons, List.all_nil, Bool.and_true, Bool.and_self, one_int, one_ptr, one_slice, one_bool, one_str, one_nil, one_iface, List.length_cons, List.length_nil, boolK_pos, boolK_neg, boolK_npos, boolK_nneg, wrap_i64, wrap_u64, wrap_u8, wrap_u32, pick_pos, pick_neg, bin_quo_nn, bin_rem_nn, bin_shr1, e5]
end
end Go.Abs

namespace Go.Abs
open Go.Proofs Go.Tt

section
variable {B : Nat} {H : AHeap} {pt : Nat} {sl sw sk : Value} {ws : List Win} {who which : List Int}

theorem build_u3 (a b c : Int) : buildSliceA (some (1, 8, [.int .u64 0])) 3 [(0, .int .u64 a), (1, .int .u64 b), (2, .int .u64 c)] = some (.cells [.int .u64 a, .int .u64 b, .int .u64 c], fun i => .slice (some ⟨i, 0, none⟩) 3 1) := by
  rfl

theorem c21 {m : Nat} (hm : 5 ≤ m) (h : TB B H pt 0 sl sw sk ws who which) (hy : Lay ws who which) (hws : ws.length ≤ 10) (h1 : 1 ≤ who.length) (h2 : who.length ≤ 256) {kind most size rate : Int} (ik : In64 kind) (im : In64 most) (is : In64 size) (ir : In64 rate)
    {s5 : Value} {al : List Sp} (hA : Sl H s5 4 spcells al) (hB : ∀ b, vblk s5 = some b → b < B) (hin : ∀ a ∈ al, SpIn a) {far : Nat} (hf : far ≤ 18446744073709551615) :
    ∃ H', tt3c21 (ttD m) (.int .i64 kind) (.int .i64 most) (.int .i64 size) (.int .i64 rate) s5 (.int .u64 far) (.bool true) (.pointer (some ⟨pt, 0, none⟩)) sw sk H = some (.bool true, H') := by
  have hst := store_one h.hpt (o := 0) (by simp) (v := .int .i64 who.length) rfl rfl
  have hpt1 := h.hpt.setEq (.cells [.int .i64 who.length, sl])
  have md : Mod (· = pt) H (H.set pt (some (.cells [.int .i64 who.length, sl]))) := Mod.set (F := (· = pt)) rfl _
  have ck : CK (H.set pt (some (.cells [.int .i64 who.length, sl]))) pt sl sw sk ws who which :=
    ⟨hpt1.row, ⟨h.osl.sl.mod md (fun b hb => (h.bl b hb).2), hy, h1, h2, hws⟩, h.osw.sl.mod md (fun b hb => (h.bw b hb).2.1), h.osk.sl.mod md (fun b hb => (h.bk b hb).2.1)⟩
  have hA1 := hA.mod md (fun b hb hh => by have := hB b hb; have := h.bp; omega)
  have hst' : storeA (some 1) (.pointer (some ⟨pt, 0, none⟩)) (.int .i64 who.length) H = some (undef, H.set pt (some (.cells [.int .i64 who.length, sl]))) := hst
  have hn1 : (H.set pt (some (.cells [.int .i64 who.length, sl]))).next = H.next := rfl
  generalize H.set pt (some (.cells [.int .i64 who.length, sl])) = H1 at *
  obtain ⟨H2, e6, x2⟩ := check_ok (m := m) (by omega) ck.tab
  have ck2 := ck.ext x2
  have x3 := ext_box H2 [.int .u64 0, .int .u64 far, .int .u64 (18446744073709551615 - (who.length : Int))]
  have hrow : Sl (box H2 [.int .u64 0, .int .u64 far, .int .u64 (18446744073709551615 - (who.length : Int))]) (.slice (some ⟨H2.next, 0, none⟩) 3 1) 1 ucell (([0, far, 18446744073709551615 - who.length] : List Nat).map fun (f : Nat) => (f : Int)) := by
    have hh := (has_box H2 [.int .u64 0, .int .u64 far, .int .u64 (18446744073709551615 - (who.length : Int))]).row
    have := Sl.mk (f := ucell) (l := [(0 : Int), far, 18446744073709551615 - (who.length : Int)]) ucell_len hh
    rw [show (([0, far, 18446744073709551615 - who.length] : List Nat).map fun (f : Nat) => (f : Int)) = [(0 : Int), far, 18446744073709551615 - (who.length : Int)] by simp; omega]
    exact this
  obtain ⟨H3, e25, x4⟩ := l25 (m := m) hm (ck2.ext x3) (fs := [0, far, 18446744073709551615 - who.length]) (by intro f hf'; simp at hf'; omega) hrow (by simp) (.int .i64 kind) (.int .i64 most) (.int .i64 size) (.int .i64 rate) s5 (.int .u64 far) undef (.bool true)
  have hx : Ext H1 H3 := (x2.trans x3).trans x4
  have k3 := sparOf_nn (x := kind) (show (0 : Int) < 3 by omega)
  have k3' := sparOf_lt (x := kind) (show (0 : Int) < 3 by omega)
  have s3 := sparOf_nn (x := size) (show (0 : Int) < 65 by omega)
  have s3' := sparOf_lt (x := size) (show (0 : Int) < 65 by omega)
  have r3 := sparOf_nn (x := rate) (show (0 : Int) < 5 by omega)
  have r3' := sparOf_lt (x := rate) (show (0 : Int) < 5 by omega)
  obtain ⟨H4, e49⟩ := c49 (m := m) (B := B) (by omega) (ck.hpt.ext hx) (by omega) (show 0 ≤ sparOf kind 3 ∧ sparOf kind 3 ≤ 2 by omega) im (show 0 ≤ sparOf size 65 ∧ sparOf size 65 ≤ 64 by omega) (show 0 ≤ sparOf rate 5 ∧ sparOf rate 5 ≤ 4 by omega) (hA1.ext hx) h.bp (by have := h.base; have := hx.1; omega) hB hin hf
  refine ⟨H4, ?_⟩
  rw [← e49]
  have r1 := cells_at ck.hpt (o := 0) (n := 2) (by simp)
  have q1 := Go.Abs.s5 (m := m) (by omega) ik (show (0 : Int) < 3 by omega) H3
  have q2 := Go.Abs.s5 (m := m) (by omega) is (show (0 : Int) < 65 by omega) H3
  have q3 := Go.Abs.s5 (m := m) (by omega) ir (show (0 : Int) < 5 by omega) H3
  have e25' : iterL (tt3l25b (ttD m)) rounds [.int .i64 kind, .int .i64 most, .int .i64 size, .int .i64 rate, s5, .int .u64 far, undef, .bool true, .pointer (some ⟨pt, 0, none⟩), sw, sk, .slice (some ⟨H2.next, 0, none⟩) 3 1, .int .i64 3, .int .i64 0] (box H2 [.int .u64 0, .int .u64 far, .int .u64 (18446744073709551615 - (who.length : Int))]) = _ := e25
  have hl3 : lenA 2 none (.slice (some ⟨H2.next, 0, none⟩) 3 1) = some (.int .i64 3) := rfl
  unfold tt3c21
  simp (disch := omega) only [hl3, bindS, boolKT, boolKF, natK0, natK1, natK2, natK3, natKS, chkKT, bin_add, bin_sub, bin_mul, bin_eql, bin_neq, bin_lss, bin_leq, bin_gtr, bin_geq, un_not, un_neg, conv_int, min_op, max_op, extract_nth, load_one, load_agg, agg_some, field_ptr, len_slice, len_str, len_arr, nil_check, nil_check_f, callTo_func, pick_true, pick_false, cells_agg, cells_int, cells_ptr, cells_slice, cells_bool, cells_str, push_box, getT_zero, getT_succ, List.getElem?_cons_zero, List.getElem?_cons_succ, List.cons_append, List.nil_append, Bool.not_true, Bool.not_false, ne_eq, not_true_eq_false, decide_false, decide_true, not_false_eq_true, Nat.add_zero, Nat.zero_add, new_box, fill_box1, fill_box1s, fill_box1p, fill_box1b, ↓reduceIte, List.all_cons, List.all_nil, Bool.and_true, Bool.and_self, one_int, one_ptr, one_slice, one_bool, one_str, one_nil, one_iface, List.length_cons, List.length_nil, boolK_pos, boolK_neg, boolK_npos, boolK_nneg, wrap_i64, wrap_u64, wrap_u8, wrap_u32, pick_pos, pick_neg, bin_quo_nn, bin_rem_nn, bin_shr1, h.osw.sl.len, hst', r1, List.drop_zero, List.take_succ_cons, List.take_zero, e6, nil_ne_nil _ _ dk35, cell_at ck2.hpt, build_u3]
  try simp only [hl3, bindS, Int.ofNat_eq_natCast]
  rw [e25']
  simp (disch := omega) only [bindS, boolKT, boolKF, natK0, natK1, natK2, natK3, natKS, chkKT, bin_add, bin_sub, bin_mul, bin_eql, bin_neq, bin_lss, bin_leq, bin_gtr, bin_geq, un_not, un_neg, conv_int, min_op, max_op, extract_nth, load_one, load_agg, agg_some, field_ptr, len_slice, len_str, len_arr, nil_check, nil_check_f, callTo_func, pick_true, pick_false, cells_agg, cells_int, cells_ptr, cells_slice, cells_bool, cells_str, push_box, getT_zero, getT_succ, List.getElem?_cons_zero, List.getElem?_cons_succ, List.cons_append, List.nil_append, Bool.not_true, Bool.not_false, ne_eq, not_true_eq_false, decide_false, decide_true, not_false_eq_true, Nat.add_zero, Nat.zero_add, new_box, fill_box1, fill_box1s, fill_box1p, fill_box1b, ↓reduceIte, List.all_cons, List.all_nil, Bool.and_true, Bool.and_self, one_int, one_ptr, one_slice, one_bool, one_str, one_nil, one_iface, List.length_cons, List.length_nil, boolK_pos, boolK_neg, boolK_npos, boolK_nneg, wrap_i64, wrap_u64, wrap_u8, wrap_u32, pick_pos, pick_neg, bin_quo_nn, bin_rem_nn, bin_shr1, q1, q2, q3]
  rw [tt3c49_tie]
  simp only [getT_zero, getT_succ]
end

/-- The law's call is true. -/
theorem tt3_true {m : Nat} (hm : 5 ≤ m) {H : AHeap} (hworks : ttD m 4 [] H = some (.bool true, H)) {x0 x5 : Value} {wl al : List Sp} {kind most size rate : Int} {far : Nat} (hW : Sl H x0 4 spcells wl) (hA : Sl H x5 4 spcells al) (hwin : ∀ a ∈ wl, SpIn a) (hain : ∀ a ∈ al, SpIn a)
    (ik : In64 kind) (im : In64 most) (is : In64 size) (ir : In64 rate) (hf : far ≤ 18446744073709551615) :
    ∃ H', ttD (m + 1) 3 [x0, .int .i64 kind, .int .i64 most, .int .i64 size, .int .i64 rate, x5, .int .u64 far] H = some (.bool true, H') := by
  have hb0 := fill_box H [.int .i64 0, .slice none 0 0] [.int .i64 0, .slice none 0 0] 2 rfl
  have x1 := ext_boxed H [.int .i64 0, .slice none 0 0] [.int .i64 0, .slice none 0 0]
  have hpt := has_boxed H [.int .i64 0, .slice none 0 0] [.int .i64 0, .slice none 0 0]
  generalize boxed H [.int .i64 0, .slice none 0 0] [.int .i64 0, .slice none 0 0] = H1 at *
  have tb : TB H.next H1 H.next 0 (.slice none 0 0) (.slice none 0 0) (.slice none 0 0) [] [] [] :=
    ⟨hpt, Own.nil _ _ _, Own.nil _ _ _, Own.nil _ _ _, Nat.le_refl _, fun b hb => by simp [vblk] at hb, fun b hb => by simp [vblk] at hb, fun b hb => by simp [vblk] at hb⟩
  have mm : Mod (fun b => H.next ≤ b) H1 H1 := Mod.refl
  obtain ⟨sl2, sw2, sk2, ws2, who2, which2, H2, e5, t2, y2, w2, n2, m2⟩ := l5 (m := m) (by omega) (B := H.next) (pt := H.next) (hW.ext x1) hW.lt hwin (.int .i64 kind) (.int .i64 most) (.int .i64 size) (.int .i64 rate) x5 (.int .u64 far) (.bool true) (min wl.length 10) (i := 0) (by omega) mm tb Lay.nil rfl (by simp) (by omega) rounds (by have := rounds_80; omega)
  have r3 := sparOf_nn (x := rate) (show (0 : Int) < 3 by omega)
  have r3' := sparOf_lt (x := rate) (show (0 : Int) < 3 by omega)
  obtain ⟨k, hk⟩ := Int.eq_ofNat_of_zero_le r3
  have hk : sparOf rate 3 = (k : Int) := hk
  have q3 := Go.Abs.s5 (m := m) (by omega) ir (show (0 : Int) < 3 by omega) H2
  obtain ⟨k', hk'⟩ : ∃ k' : Nat, (1 - min 1 (who2.length : Int)) + (k : Int) = (k' : Int) ∧ k' = (1 - min 1 who2.length) + k := ⟨(1 - min 1 who2.length) + k, by omega, rfl⟩
  obtain ⟨sw3, sk3, who3, which3, H3, e18, t3, y3, n3, m3⟩ := l18 (m := m) (.int .i64 kind) (.int .i64 most) (.int .i64 size) (.int .i64 rate) x5 (.int .u64 far) (.bool true) k' (by omega) t2 y2 (by omega) rounds (lt_rounds (by omega))
  have hA3 := (((hA.ext x1).mod m2 (fun b hb hh => by have := hA.lt b hb; omega)).mod m3 (fun b hb hh => by have := hA.lt b hb; omega))
  obtain ⟨H4, e21⟩ := c21 (m := m) hm t3 y3 w2 (by omega) (by omega) ik im is ir hA3 hA.lt hain hf
  refine ⟨H4, ttD3 ?_⟩
  rw [← e21]
  have e5' : iterL (tt3l5b (ttD m)) rounds [x0, .int .i64 kind, .int .i64 most, .int .i64 size, .int .i64 rate, x5, .int .u64 far, .bool true, .pointer (some ⟨H.next, 0, none⟩), .slice none 0 0, .slice none 0 0, .int .i64 0] H1 = _ := e5
  unfold tt3
  simp (disch := omega) only [bindS, boolKT, boolKF, natK0, natK1, natK2, natK3, natKS, chkKT, bin_add, bin_sub, bin_mul, bin_eql, bin_neq, bin_lss, bin_leq, bin_gtr, bin_geq, un_not, un_neg, conv_int, min_op, max_op, extract_nth, load_one, load_agg, agg_some, field_ptr, len_slice, len_str, len_arr, nil_check, nil_check_f, callTo_func, pick_true, pick_false, cells_agg, cells_int, cells_ptr, cells_slice, cells_bool, cells_str, push_box, getT_zero, getT_succ, List.getElem?_cons_zero, List.getElem?_cons_succ, List.cons_append, List.nil_append, Bool.not_true, Bool.not_false, ne_eq, not_true_eq_false, decide_false, decide_true, not_false_eq_true, Nat.add_zero, Nat.zero_add, new_box, fill_box1, fill_box1s, fill_box1p, fill_box1b, ↓reduceIte, List.all_cons, List.all_nil, Bool.and_true, Bool.and_self, one_int, one_ptr, one_slice, one_bool, one_str, one_nil, one_iface, List.length_cons, List.length_nil, boolK_pos, boolK_neg, boolK_npos, boolK_nneg, wrap_i64, wrap_u64, wrap_u8, wrap_u32, pick_pos, pick_neg, bin_quo_nn, bin_rem_nn, bin_shr1, hworks, build27, hb0]
  rw [e5']
  simp (disch := omega) only [bindS, boolKT, boolKF, natK0, natK1, natK2, natK3, natKS, chkKT, bin_add, bin_sub, bin_mul, bin_eql, bin_neq, bin_lss, bin_leq, bin_gtr, bin_geq, un_not, un_neg, conv_int, min_op, max_op, extract_nth, load_one, load_agg, agg_some, field_ptr, len_slice, len_str, len_arr, nil_check, nil_check_f, callTo_func, pick_true, pick_false, cells_agg, cells_int, cells_ptr, cells_slice, cells_bool, cells_str, push_box, getT_zero, getT_succ, List.getElem?_cons_zero, List.getElem?_cons_succ, List.cons_append, List.nil_append, Bool.not_true, Bool.not_false, ne_eq, not_true_eq_false, decide_false, decide_true, not_false_eq_true, Nat.add_zero, Nat.zero_add, new_box, fill_box1, fill_box1s, fill_box1p, fill_box1b, ↓reduceIte, List.all_cons, List.all_nil, Bool.and_true, Bool.and_self, one_int, one_ptr, one_slice, one_bool, one_str, one_nil, one_iface, List.length_cons, List.length_nil, boolK_pos, boolK_neg, boolK_npos, boolK_nneg, wrap_i64, wrap_u64, wrap_u8, wrap_u32, pick_pos, pick_neg, bin_quo_nn, bin_rem_nn, bin_shr1, t2.osw.sl.len, q3, hk, hk'.1]
  rw [e18]
  simp (disch := omega) only [bindS, boolKT, boolKF, natK0, natK1, natK2, natK3, natKS, chkKT, bin_add, bin_sub, bin_mul, bin_eql, bin_neq, bin_lss, bin_leq, bin_gtr, bin_geq, un_not, un_neg, conv_int, min_op, max_op, extract_nth, load_one, load_agg, agg_some, field_ptr, len_slice, len_str, len_arr, nil_check, nil_check_f, callTo_func, pick_true, pick_false, cells_agg, cells_int, cells_ptr, cells_slice, cells_bool, cells_str, push_box, getT_zero, getT_succ, List.getElem?_cons_zero, List.getElem?_cons_succ, List.cons_append, List.nil_append, Bool.not_true, Bool.not_false, ne_eq, not_true_eq_false, decide_false, decide_true, not_false_eq_true, Nat.add_zero, Nat.zero_add, new_box, fill_box1, fill_box1s, fill_box1p, fill_box1b, ↓reduceIte, List.all_cons, List.all_nil, Bool.and_true, Bool.and_self, one_int, one_ptr, one_slice, one_bool, one_str, one_nil, one_iface, List.length_cons, List.length_nil, boolK_pos, boolK_neg, boolK_npos, boolK_nneg, wrap_i64, wrap_u64, wrap_u8, wrap_u32, pick_pos, pick_neg, bin_quo_nn, bin_rem_nn, bin_shr1]
  rw [tt3c21_tie]
  simp only [getT_zero, getT_succ]
end Go.Abs
