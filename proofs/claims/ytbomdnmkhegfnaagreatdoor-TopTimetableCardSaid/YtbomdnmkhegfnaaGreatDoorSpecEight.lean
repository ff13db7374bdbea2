/-
  THE LAW's LOOP: sends, clones, receives.
-/
import Derived.Test.YtbomdnmkhegfnaaGreatDoorSpecSeven
set_option linter.all false
namespace Go.Abs
open Go.Proofs Go.Tt

section
variable {B : Nat} {H : AHeap} {pt bc bl T : Nat} {tsl : Value} {c : Chan} {q : Queue} {rate burst left : Int} {vr vw : Value} {rv : List (Nat × Nat)}

theorem bool_ne (a b : Bool) : (!(a == b)) = (a != b) := rfl

theorem j368_send {m : Nat} (hm : 2 ≤ m) (h : ML B H pt bc bl T tsl c q q rate burst left vr vw rv) {kind most size lost : Int} (hk : ChK c kind most size lost q) (hll : lost ≤ 1000) {bx : Nat} {a : Sp} (ha : SpIn a)
    (hx : Row H bx (spcells a)) (nx : bx ≠ bc ∧ bx ≠ bl) (s5 s14 s15 s336 : Value) {now : Nat} (hnow : now ≤ 9223372036854900000) {i : Int} (hi : 0 ≤ i ∧ i ≤ 99) :
    Acted B H pt bl T tsl kind most size rate burst s5 s14 s15 i lost now (tt3j368 (ttD m) (.int .i64 kind) (.int .i64 most) (.int .i64 size) (.int .i64 rate) s5 s14 s15 (.pointer (some ⟨pt, 0, none⟩)) (.int .i64 burst) (.pointer (some ⟨bc, 0, none⟩)) (.pointer (some ⟨bl, 0, none⟩)) (.int .i64 left) (.int .u64 lost) vr vw (.int .u64 now) (.int .i64 i) (.pointer (some ⟨bx, 0, none⟩)) s336 (.bool true) H) := by
  obtain ⟨p1, p2, p3, p4, p5⟩ := id h.cap
  obtain ⟨H1, e18, x1⟩ := s18 (m := m) hm (H := H) h.cap
  have x2 := ext_boxed H1 z3 (capL rate burst (if left = 0 then 0 else left - 1))
  have r49 := (has_boxed H1 z3 (capL rate burst (if left = 0 then 0 else left - 1))).row
  have hfb := fill_box H1 z3 (capL rate burst (if left = 0 then 0 else left - 1)) 3 rfl
  have x12 : Ext H (boxed H1 z3 (capL rate burst (if left = 0 then 0 else left - 1))) := x1.trans x2
  have h2 := h.ext x12
  by_cases hz : left = 0
  · subst hz
    rw [if_pos rfl] at *
    obtain ⟨f1, f2, f3, f4, f5, f6⟩ := h2.tail (m := m) (by omega)
    rw [hk.el] at f3
    have hkq := hk
    generalize hH2 : boxed H1 z3 (capL rate burst 0) = H2 at *
    refine ⟨box H2 (capL rate burst 0), bc, c, q, 0, lost, vr, vw, rv, now, ?_, h2.ext (ext_box _ _), hk, by omega, by omega, Ext.mod (x12.trans (ext_box _ _))⟩
    have hn : binA Tryz.prog .neq 50 (.tmp 441) (.tmp 442) (.agg (capL rate burst 0).toArray) (.agg (capL rate burst 0).toArray) = some (.bool false) := neq50 _ _ rate burst 0
    unfold tt3j368 tt3j270
    simp (disch := omega) only [bindS, boolKT, boolKF, natK0, natK1, natK2, natK3, natKS, chkKT, bin_add, bin_sub, bin_mul, bin_eql, bin_neq, bin_lss, bin_leq, bin_gtr, bin_geq, un_not, un_neg, conv_int, min_op, max_op, extract_nth, load_one, load_agg, agg_some, field_ptr, len_slice, len_str, len_arr, nil_check, nil_check_f, callTo_func, pick_true, pick_false, cells_agg, cells_int, cells_ptr, cells_slice, cells_bool, cells_str, push_box, getT_zero, getT_succ, List.getElem?_cons_zero, List.getElem?_cons_succ, List.cons_append, List.nil_append, Bool.not_true, Bool.not_false, ne_eq, not_true_eq_false, decide_false, decide_true, not_false_eq_true, Nat.add_zero, Nat.zero_add, new_box, fill_box1, fill_box1s, fill_box1p, fill_box1b, ↓reduceIte, List.all_cons, List.all_nil, Bool.and_true, Bool.and_self, one_int, one_ptr, one_slice, one_bool, one_str, one_nil, one_iface, List.length_cons, List.length_nil, boolK_pos, boolK_neg, boolK_npos, boolK_nneg, wrap_i64, wrap_u64, wrap_u8, wrap_u32, pick_pos, pick_neg, bin_quo_nn, bin_rem_nn, bin_shr1, cells_all (n := 3) h.hl.row rfl, e18, hfb, bool_neq _ _ _ dk4]
    simp (disch := omega) only [bindS, boolKT, boolKF, natK0, natK1, natK2, natK3, natKS, chkKT, bin_add, bin_sub, bin_mul, bin_eql, bin_neq, bin_lss, bin_leq, bin_gtr, bin_geq, un_not, un_neg, conv_int, min_op, max_op, extract_nth, load_one, load_agg, agg_some, field_ptr, len_slice, len_str, len_arr, nil_check, nil_check_f, callTo_func, pick_true, pick_false, cells_agg, cells_int, cells_ptr, cells_slice, cells_bool, cells_str, push_box, getT_zero, getT_succ, List.getElem?_cons_zero, List.getElem?_cons_succ, List.cons_append, List.nil_append, Bool.not_true, Bool.not_false, ne_eq, not_true_eq_false, decide_false, decide_true, not_false_eq_true, Nat.add_zero, Nat.zero_add, new_box, fill_box1, fill_box1s, fill_box1p, fill_box1b, ↓reduceIte, List.all_cons, List.all_nil, Bool.and_true, Bool.and_self, one_int, one_ptr, one_slice, one_bool, one_str, one_nil, one_iface, List.length_cons, List.length_nil, boolK_pos, boolK_neg, boolK_npos, boolK_nneg, wrap_i64, wrap_u64, wrap_u8, wrap_u32, pick_pos, pick_neg, bin_quo_nn, bin_rem_nn, bin_shr1, f1, f2, f3, f4, f5, f6, cells_all (n := 3) r49 rfl, beq_self_eq_true, bne_self_eq_false, Int.lt_irrefl, hn]
  · rw [if_neg hz] at *
    rw [show decide (left ≠ 0) = true by simp [hz]] at e18
    have hpos : (0 : Int) < left := by omega
    have hd : decide ((0 : Int) < left) = true := by simp [hpos]
    have hlt := h.hc.1
    have hln := h.hl.1
    have hr49 : H1.next ≠ bc := by have := x1.1; omega
    generalize hH2 : boxed H1 z3 (capL rate burst (left - 1)) = H2 at *
    obtain ⟨H', bc', c', q', left', lost', vr', vw', rv', now', e, g1, g2, g3, g4, g5⟩ := j270 (m := m) hm h2 hk hll ha (hx.ext x12) r49 hpos nx s5 s14 s15 hnow hi
    refine ⟨H', bc', c', q', left', lost', vr', vw', rv', now', ?_, g1, g2, g3, g4, (Ext.mod x12).trans g5⟩
    rw [← e]
    unfold tt3j368
    simp (disch := omega) only [bindS, boolKT, boolKF, natK0, natK1, natK2, natK3, natKS, chkKT, bin_add, bin_sub, bin_mul, bin_eql, bin_neq, bin_lss, bin_leq, bin_gtr, bin_geq, un_not, un_neg, conv_int, min_op, max_op, extract_nth, load_one, load_agg, agg_some, field_ptr, len_slice, len_str, len_arr, nil_check, nil_check_f, callTo_func, pick_true, pick_false, cells_agg, cells_int, cells_ptr, cells_slice, cells_bool, cells_str, push_box, getT_zero, getT_succ, List.getElem?_cons_zero, List.getElem?_cons_succ, List.cons_append, List.nil_append, Bool.not_true, Bool.not_false, ne_eq, not_true_eq_false, decide_false, decide_true, not_false_eq_true, Nat.add_zero, Nat.zero_add, new_box, fill_box1, fill_box1s, fill_box1p, fill_box1b, ↓reduceIte, List.all_cons, List.all_nil, Bool.and_true, Bool.and_self, one_int, one_ptr, one_slice, one_bool, one_str, one_nil, one_iface, List.length_cons, List.length_nil, boolK_pos, boolK_neg, boolK_npos, boolK_nneg, wrap_i64, wrap_u64, wrap_u8, wrap_u32, pick_pos, pick_neg, bin_quo_nn, bin_rem_nn, bin_shr1, cells_all (n := 3) h.hl.row rfl, e18, hfb, bool_neq _ _ _ dk4, hd, beq_self_eq_true]

/-- Another one like it. -/
theorem j368_clone {m : Nat} (hm : 2 ≤ m) (h : ML B H pt bc bl T tsl c q q rate burst left vr vw rv) {kind most size lost : Int} (hk : ChK c kind most size lost q) (s5 s14 s15 s47 : Value) {now : Nat} {i : Int} (hi : 0 ≤ i ∧ i ≤ 99) :
    Acted B H pt bl T tsl kind most size rate burst s5 s14 s15 i lost now (tt3j368 (ttD m) (.int .i64 kind) (.int .i64 most) (.int .i64 size) (.int .i64 rate) s5 s14 s15 (.pointer (some ⟨pt, 0, none⟩)) (.int .i64 burst) (.pointer (some ⟨bc, 0, none⟩)) (.pointer (some ⟨bl, 0, none⟩)) (.int .i64 left) (.int .u64 lost) vr vw (.int .u64 now) (.int .i64 i) s47 (.int .i64 4) (.bool false) H) := by
  have e20 := s20 (m := m) (by omega) h.hc h.hq.1
  have x1 := ext_boxed H (zeroC Tryz.prog 105) c.cells
  have hc1 := has_boxed H (zeroC Tryz.prog 105) c.cells
  have h1 := h.ext x1
  have hB := h.bB.1
  have hcn := h.hc.1
  have hln := h.hl.1
  have hpn := h.hpt.1
  have h2 : ML B (boxed H (zeroC Tryz.prog 105) c.cells) pt H.next bl T tsl c q q rate burst left vr vw rv :=
    { h1 with hc := hc1, bB := ⟨by omega, h.bB.2⟩, dcl := by omega, dcp := by omega,
              dr := fun b hb => by have d := h.dr b hb; have := h.hr.lt b hb; exact ⟨d.1, by omega, d.2.2⟩
              dw := fun b hb => by have d := h.dw b hb; have := h.hw.lt b hb; exact ⟨d.1, by omega, d.2.2⟩
              dx := fun x hx => by have d := h1.dx x hx; have d' := h.dx x hx; exact ⟨by omega, d.2⟩ }
  generalize hH2 : boxed H (zeroC Tryz.prog 105) c.cells = H2 at *
  obtain ⟨f1, f2, f3, f4, f5, f6⟩ := h2.tail (m := m) (by omega)
  rw [hk.el] at f3
  refine ⟨box H2 (capL rate burst left), H.next, c, q, left, lost, vr, vw, rv, now, ?_, h2.ext (ext_box _ _), hk, by omega, by omega, Ext.mod (x1.trans (ext_box _ _))⟩
  unfold tt3j368
  simp (disch := omega) only [bindS, boolKT, boolKF, natK0, natK1, natK2, natK3, natKS, chkKT, bin_add, bin_sub, bin_mul, bin_eql, bin_neq, bin_lss, bin_leq, bin_gtr, bin_geq, un_not, un_neg, conv_int, min_op, max_op, extract_nth, load_one, load_agg, agg_some, field_ptr, len_slice, len_str, len_arr, nil_check, nil_check_f, callTo_func, pick_true, pick_false, cells_agg, cells_int, cells_ptr, cells_slice, cells_bool, cells_str, push_box, getT_zero, getT_succ, List.getElem?_cons_zero, List.getElem?_cons_succ, List.cons_append, List.nil_append, Bool.not_true, Bool.not_false, ne_eq, not_true_eq_false, decide_false, decide_true, not_false_eq_true, Nat.add_zero, Nat.zero_add, new_box, fill_box1, fill_box1s, fill_box1p, fill_box1b, ↓reduceIte, List.all_cons, List.all_nil, Bool.and_true, Bool.and_self, one_int, one_ptr, one_slice, one_bool, one_str, one_nil, one_iface, List.length_cons, List.length_nil, boolK_pos, boolK_neg, boolK_npos, boolK_nneg, wrap_i64, wrap_u64, wrap_u8, wrap_u32, pick_pos, pick_neg, bin_quo_nn, bin_rem_nn, bin_shr1, e20, f1, f2, f3, f4, f5, f6]

/-! ## Receives -/

def toU (x : Int) : UInt8 := UInt8.ofNat x.toNat
theorem bytes_of (bs : List Int) : bytes? (bcells bs) = some (bs.map toU) := by
  induction bs with
  | nil => rfl
  | cons x bs ih =>
    show byteCons (.int .u8 x) (bytes? (bcells bs)) = _
    rw [ih]; rfl
theorem str_of {H : AHeap} {v : Value} {bs : List Int} (h : Sl H v 1 bcell bs) : ∃ s, strOfA true v H = some (.string s) ∧ s.data.toList = bs.map toU := by
  rcases h with ⟨rfl, rfl⟩ | ⟨b, o, c, rfl, h2, h3, h4⟩
  · exact ⟨.empty, rfl, rfl⟩
  · refine ⟨⟨(bs.map toU).toArray⟩, ?_, by simp⟩
    rw [Nat.mul_one] at h3 h4
    rw [bcells_flat] at h4
    simp only [strOfA, cells_at h2 h3, h4, toStr, bytes_of]

/-- The row behind a receive, on paper. -/
theorem ML.recv (h : ML B H pt bc bl T tsl c q q rate burst left vr vw rv) (e : List Int × Int) (q1 : Queue) (hq : q = e :: q1) {c' : Chan} {H' : AHeap} {qc' : Queue} (hm : Mod (· = bc) H H') (hc : Has H' bc (.cells c'.cells)) (hq' : QOk c' qc') :
    ∃ vr' vw' rv', sliceA 2 (some (none, 1)) vr (some (.int .i64 1)) none none = some vr' ∧ sliceA 2 (some (none, 1)) vw (some (.int .i64 1)) none none = some vw' ∧ ML B H' pt bc bl T tsl c' qc' q1 rate burst left vr' vw' rv' := by
  subst hq
  have h' := h.chan hm hc hq'
  have hlen := h'.len
  cases rv with
  | nil => simp at hlen
  | cons x rv =>
    obtain ⟨vr', e1, o1, b1⟩ := Own.tail scell_len h'.hr
    have hw := h'.hw
    rw [List.map_cons] at hw
    obtain ⟨vw', e2, o2, b2⟩ := Own.tail ucell_len hw
    refine ⟨vr', vw', rv, e1, e2, ?_⟩
    exact { h' with
      hr := o1, hw := o2, len := by simpa using hlen
      rows := fun i y bs t h1 h2 => h'.rows (i + 1) y bs t (by simpa using h1) (by simpa using h2)
      times := fun e he => h'.times e (by simp [he])
      dr := fun b hb => h'.dr b (by rw [← b1]; exact hb)
      dw := fun b hb => by rw [b2] at hb; have d := h'.dw b hb; rw [b1]; exact d
      dx := fun y hy => by have d := h'.dx y (by simp [hy]); rw [b1, b2]; exact d }
end
end Go.Abs

namespace Go.Abs
open Go.Proofs Go.Tt

section
variable {B : Nat} {H : AHeap} {pt bc bl T : Nat} {tsl : Value} {c : Chan} {q : Queue} {rate burst left : Int} {vr vw : Value} {rv : List (Nat × Nat)}

theorem j368_recv {m : Nat} (hm : 2 ≤ m) (h : ML B H pt bc bl T tsl c q q rate burst left vr vw rv) {kind most size lost : Int} (hk : ChK c kind most size lost q) {bx : Nat} {a : Sp} (ha : SpIn a)
    (hx : Row H bx (spcells a)) (s5 s14 s15 : Value) {now : Nat} (hnow : now ≤ 9223372036854900000) {i : Int} (hi : 0 ≤ i ∧ i ≤ 99) {d : Int} (hd : d ≠ 4) :
    Acted B H pt bl T tsl kind most size rate burst s5 s14 s15 i lost now (tt3j368 (ttD m) (.int .i64 kind) (.int .i64 most) (.int .i64 size) (.int .i64 rate) s5 s14 s15 (.pointer (some ⟨pt, 0, none⟩)) (.int .i64 burst) (.pointer (some ⟨bc, 0, none⟩)) (.pointer (some ⟨bl, 0, none⟩)) (.int .i64 left) (.int .u64 lost) vr vw (.int .u64 now) (.int .i64 i) (.pointer (some ⟨bx, 0, none⟩)) (.int .i64 d) (.bool false) H) := by
  obtain ⟨a1, a2, a3, a4⟩ := ha
  have c0 := sparOf_nn (x := a.c) (show (0 : Int) < 3 by omega)
  have c1 := sparOf_lt (x := a.c) (show (0 : Int) < 3 by omega)
  have hat : InU (IntKind.u64.wrap ((now : Int) - sparOf a.c 3)) := by rw [wrap_u64_mod]; constructor <;> omega
  obtain ⟨at_, hate⟩ : ∃ t, IntKind.u64.wrap ((now : Int) - sparOf a.c 3) = t := ⟨_, rfl⟩
  rw [hate] at hat
  have hcx3 := cell_at hx 3
  simp only [spcells, List.getElem?_cons_succ, List.getElem?_cons_zero] at hcx3
  have e5 := Go.Abs.s5 (m := m) (by omega) a4 (show (0 : Int) < 3 by omega) H
  have hlen := h.len
  cases q with
  | nil =>
    have e21 := s21_none (m := m) (by omega) h.hc h.hq at_
    obtain ⟨f1, f2, f3, f4, f5, f6⟩ := h.tail (m := m) (by omega)
    rw [hk.el] at f3
    refine ⟨box H (capL rate burst left), bc, c, [], left, lost, vr, vw, rv, now, ?_, h.ext (ext_box _ _), hk, by omega, by omega, Ext.mod (ext_box _ _)⟩
    simp only [List.length_nil] at hlen
    have hn0 : (rv.length : Int) = 0 := by omega
    rw [hn0] at f2 f6
    unfold tt3j368 tt3j319
    simp (disch := omega) only [bindS, boolKT, boolKF, natK0, natK1, natK2, natK3, natKS, chkKT, bin_add, bin_sub, bin_mul, bin_eql, bin_neq, bin_lss, bin_leq, bin_gtr, bin_geq, un_not, un_neg, conv_int, min_op, max_op, extract_nth, load_one, load_agg, agg_some, field_ptr, len_slice, len_str, len_arr, nil_check, nil_check_f, callTo_func, pick_true, pick_false, cells_agg, cells_int, cells_ptr, cells_slice, cells_bool, cells_str, push_box, getT_zero, getT_succ, List.getElem?_cons_zero, List.getElem?_cons_succ, List.cons_append, List.nil_append, Bool.not_true, Bool.not_false, ne_eq, not_true_eq_false, decide_false, decide_true, not_false_eq_true, Nat.add_zero, Nat.zero_add, new_box, fill_box1, fill_box1s, fill_box1p, fill_box1b, ↓reduceIte, List.all_cons, List.all_nil, Bool.and_true, Bool.and_self, one_int, one_ptr, one_slice, one_bool, one_str, one_nil, one_iface, List.length_cons, List.length_nil, boolK_pos, boolK_neg, boolK_npos, boolK_nneg, wrap_i64, wrap_u64, wrap_u8, wrap_u32, pick_pos, pick_neg, bin_quo_nn, bin_rem_nn, bin_shr1, hcx3, e5, hate, e21, f1, f2, f3, f4, f5, f6, show (0 : Int) = ((0 : Nat) : Int) from rfl]
  | cons e q1 =>
    obtain ⟨bs, t⟩ := e
    have ht := h.times (bs, t) (by simp)
    have hq5 : q1.length < 16 := by have h1 := hk.qm; have h2 := hk.m0; simp only [List.length_cons] at h1; omega
    obtain ⟨v, H1, c1', e21, g1, g2, g3, g4, g5, g6, g7, g8⟩ := s21 (m := m) (by omega) h.hc h.hq hq5 hat ht
    have h1 := h.chan g4 g2 g3
    obtain ⟨s1, st1, sb1⟩ := str_of g1
    obtain ⟨ht1, ht2⟩ := ht
    obtain ⟨hat1, hat2⟩ := hat
    have hl1 : rv.length = q1.length + 1 := by simpa using hlen
    obtain ⟨x, hx0⟩ : ∃ x, rv[0]? = some x := ⟨_, List.getElem?_eq_getElem (by omega)⟩
    have hrow := h1.rows 0 x bs t hx0 rfl
    obtain ⟨s2, st2, sb2⟩ := str_of hrow
    obtain ⟨br, or_, cr, i1, _, _, _, _, i2⟩ := h1.hr.sl.at scell_len (i := 0) (by omega) (x := x) (by simpa using hx0) .i64
    have i20 := i2 0 (by omega)
    simp only [Nat.add_zero, scell, List.getElem?_cons_zero] at i20
    obtain ⟨bw, ow, j1, j2, _⟩ := sl_u h1.hw.sl (i := 0) (by omega) (x := t) (by simp)
    have hse : (s1.data.toList == s2.data.toList) = true := by rw [sb1, sb2]; simp
    have mB : Mod (B ≤ ·) H H1 := g4.mono fun b _ hb => by have := h.bB.1; omega
    have hvl := h1.hr.sl.len
    rw [hl1] at hvl
    have hage : (if t < at_ then at_ - t else 0 : Int) = (if t < at_ then at_ - t else 0 : Int) := rfl
    by_cases hk0 : kind = 0
    · rw [show c.kind = 0 by rw [hk.ek, hk0]] at g3
      have h2 := h.chan g4 g2 g3
      rw [recvQ, if_pos rfl] at h2
      obtain ⟨f1, f2, f3, f4, f5, f6⟩ := h2.tail (m := m) (by omega)
      rw [g8, hk.el] at f3
      refine ⟨box H1 (capL rate burst left), bc, c1', (bs, t) :: q1, left, lost, vr, vw, rv, now, ?_, h2.ext (ext_box _ _), ⟨by rw [g5, hk.ek], by rw [g6, hk.em], by rw [g7, hk.es], by rw [g8, hk.el], hk.k0, hk.m0, hk.s0, hk.km, hk.qm, hk.l0⟩, by omega, by omega, mB.trans (Ext.mod (ext_box _ _))⟩
      unfold tt3j368
      by_cases hlt : t < at_
      · rw [if_pos hlt] at e21
        simp (disch := omega) only [bindS, boolKT, boolKF, natK0, natK1, natK2, natK3, natKS, chkKT, bin_add, bin_sub, bin_mul, bin_eql, bin_neq, bin_lss, bin_leq, bin_gtr, bin_geq, un_not, un_neg, conv_int, min_op, max_op, extract_nth, load_one, load_agg, agg_some, field_ptr, len_slice, len_str, len_arr, nil_check, nil_check_f, callTo_func, pick_true, pick_false, cells_agg, cells_int, cells_ptr, cells_slice, cells_bool, cells_str, push_box, getT_zero, getT_succ, List.getElem?_cons_zero, List.getElem?_cons_succ, List.cons_append, List.nil_append, Bool.not_true, Bool.not_false, ne_eq, not_true_eq_false, decide_false, decide_true, not_false_eq_true, Nat.add_zero, Nat.zero_add, new_box, fill_box1, fill_box1s, fill_box1p, fill_box1b, ↓reduceIte, List.all_cons, List.all_nil, Bool.and_true, Bool.and_self, one_int, one_ptr, one_slice, one_bool, one_str, one_nil, one_iface, List.length_cons, List.length_nil, boolK_pos, boolK_neg, boolK_npos, boolK_nneg, wrap_i64, wrap_u64, wrap_u8, wrap_u32, pick_pos, pick_neg, bin_quo_nn, bin_rem_nn, bin_shr1, hcx3, e5, hate, e21, hvl, j1, j2]
        unfold tt3j361
        simp (disch := omega) only [bindS, boolKT, boolKF, natK0, natK1, natK2, natK3, natKS, chkKT, bin_add, bin_sub, bin_mul, bin_eql, bin_neq, bin_lss, bin_leq, bin_gtr, bin_geq, un_not, un_neg, conv_int, min_op, max_op, extract_nth, load_one, load_agg, agg_some, field_ptr, len_slice, len_str, len_arr, nil_check, nil_check_f, callTo_func, pick_true, pick_false, cells_agg, cells_int, cells_ptr, cells_slice, cells_bool, cells_str, push_box, getT_zero, getT_succ, List.getElem?_cons_zero, List.getElem?_cons_succ, List.cons_append, List.nil_append, Bool.not_true, Bool.not_false, ne_eq, not_true_eq_false, decide_false, decide_true, not_false_eq_true, Nat.add_zero, Nat.zero_add, new_box, fill_box1, fill_box1s, fill_box1p, fill_box1b, ↓reduceIte, List.all_cons, List.all_nil, Bool.and_true, Bool.and_self, one_int, one_ptr, one_slice, one_bool, one_str, one_nil, one_iface, List.length_cons, List.length_nil, boolK_pos, boolK_neg, boolK_npos, boolK_nneg, wrap_i64, wrap_u64, wrap_u8, wrap_u32, pick_pos, pick_neg, bin_quo_nn, bin_rem_nn, bin_shr1, i1, i20, st1, st2, str_neq, hse]
        unfold tt3j353
        simp (disch := omega) only [bindS, boolKT, boolKF, natK0, natK1, natK2, natK3, natKS, chkKT, bin_add, bin_sub, bin_mul, bin_eql, bin_neq, bin_lss, bin_leq, bin_gtr, bin_geq, un_not, un_neg, conv_int, min_op, max_op, extract_nth, load_one, load_agg, agg_some, field_ptr, len_slice, len_str, len_arr, nil_check, nil_check_f, callTo_func, pick_true, pick_false, cells_agg, cells_int, cells_ptr, cells_slice, cells_bool, cells_str, push_box, getT_zero, getT_succ, List.getElem?_cons_zero, List.getElem?_cons_succ, List.cons_append, List.nil_append, Bool.not_true, Bool.not_false, ne_eq, not_true_eq_false, decide_false, decide_true, not_false_eq_true, Nat.add_zero, Nat.zero_add, new_box, fill_box1, fill_box1s, fill_box1p, fill_box1b, ↓reduceIte, List.all_cons, List.all_nil, Bool.and_true, Bool.and_self, one_int, one_ptr, one_slice, one_bool, one_str, one_nil, one_iface, List.length_cons, List.length_nil, boolK_pos, boolK_neg, boolK_npos, boolK_nneg, wrap_i64, wrap_u64, wrap_u8, wrap_u32, pick_pos, pick_neg, bin_quo_nn, bin_rem_nn, bin_shr1, f1, f2, f3, f4, f5, f6]
      · rw [if_neg hlt] at e21
        simp (disch := omega) only [bindS, boolKT, boolKF, natK0, natK1, natK2, natK3, natKS, chkKT, bin_add, bin_sub, bin_mul, bin_eql, bin_neq, bin_lss, bin_leq, bin_gtr, bin_geq, un_not, un_neg, conv_int, min_op, max_op, extract_nth, load_one, load_agg, agg_some, field_ptr, len_slice, len_str, len_arr, nil_check, nil_check_f, callTo_func, pick_true, pick_false, cells_agg, cells_int, cells_ptr, cells_slice, cells_bool, cells_str, push_box, getT_zero, getT_succ, List.getElem?_cons_zero, List.getElem?_cons_succ, List.cons_append, List.nil_append, Bool.not_true, Bool.not_false, ne_eq, not_true_eq_false, decide_false, decide_true, not_false_eq_true, Nat.add_zero, Nat.zero_add, new_box, fill_box1, fill_box1s, fill_box1p, fill_box1b, ↓reduceIte, List.all_cons, List.all_nil, Bool.and_true, Bool.and_self, one_int, one_ptr, one_slice, one_bool, one_str, one_nil, one_iface, List.length_cons, List.length_nil, boolK_pos, boolK_neg, boolK_npos, boolK_nneg, wrap_i64, wrap_u64, wrap_u8, wrap_u32, pick_pos, pick_neg, bin_quo_nn, bin_rem_nn, bin_shr1, hcx3, e5, hate, e21, hvl, j1, j2]
        unfold tt3j361
        simp (disch := omega) only [bindS, boolKT, boolKF, natK0, natK1, natK2, natK3, natKS, chkKT, bin_add, bin_sub, bin_mul, bin_eql, bin_neq, bin_lss, bin_leq, bin_gtr, bin_geq, un_not, un_neg, conv_int, min_op, max_op, extract_nth, load_one, load_agg, agg_some, field_ptr, len_slice, len_str, len_arr, nil_check, nil_check_f, callTo_func, pick_true, pick_false, cells_agg, cells_int, cells_ptr, cells_slice, cells_bool, cells_str, push_box, getT_zero, getT_succ, List.getElem?_cons_zero, List.getElem?_cons_succ, List.cons_append, List.nil_append, Bool.not_true, Bool.not_false, ne_eq, not_true_eq_false, decide_false, decide_true, not_false_eq_true, Nat.add_zero, Nat.zero_add, new_box, fill_box1, fill_box1s, fill_box1p, fill_box1b, ↓reduceIte, List.all_cons, List.all_nil, Bool.and_true, Bool.and_self, one_int, one_ptr, one_slice, one_bool, one_str, one_nil, one_iface, List.length_cons, List.length_nil, boolK_pos, boolK_neg, boolK_npos, boolK_nneg, wrap_i64, wrap_u64, wrap_u8, wrap_u32, pick_pos, pick_neg, bin_quo_nn, bin_rem_nn, bin_shr1, i1, i20, st1, st2, str_neq, hse]
        unfold tt3j353
        simp (disch := omega) only [bindS, boolKT, boolKF, natK0, natK1, natK2, natK3, natKS, chkKT, bin_add, bin_sub, bin_mul, bin_eql, bin_neq, bin_lss, bin_leq, bin_gtr, bin_geq, un_not, un_neg, conv_int, min_op, max_op, extract_nth, load_one, load_agg, agg_some, field_ptr, len_slice, len_str, len_arr, nil_check, nil_check_f, callTo_func, pick_true, pick_false, cells_agg, cells_int, cells_ptr, cells_slice, cells_bool, cells_str, push_box, getT_zero, getT_succ, List.getElem?_cons_zero, List.getElem?_cons_succ, List.cons_append, List.nil_append, Bool.not_true, Bool.not_false, ne_eq, not_true_eq_false, decide_false, decide_true, not_false_eq_true, Nat.add_zero, Nat.zero_add, new_box, fill_box1, fill_box1s, fill_box1p, fill_box1b, ↓reduceIte, List.all_cons, List.all_nil, Bool.and_true, Bool.and_self, one_int, one_ptr, one_slice, one_bool, one_str, one_nil, one_iface, List.length_cons, List.length_nil, boolK_pos, boolK_neg, boolK_npos, boolK_nneg, wrap_i64, wrap_u64, wrap_u8, wrap_u32, pick_pos, pick_neg, bin_quo_nn, bin_rem_nn, bin_shr1, f1, f2, f3, f4, f5, f6]
    · have hck : ¬c.kind = 0 := by rw [hk.ek]; exact hk0
      rw [recvQ, if_neg hck, List.tail_cons] at g3
      obtain ⟨vr', vw', rv', t1, t2, h2⟩ := h.recv (bs, t) q1 rfl g4 g2 g3
      obtain ⟨f1, f2, f3, f4, f5, f6⟩ := h2.tail (m := m) (by omega)
      rw [g8, hk.el] at f3
      have hqm := hk.qm
      simp only [List.length_cons] at hqm
      refine ⟨box H1 (capL rate burst left), bc, c1', q1, left, lost, vr', vw', rv', now, ?_, h2.ext (ext_box _ _), ⟨by rw [g5, hk.ek], by rw [g6, hk.em], by rw [g7, hk.es], by rw [g8, hk.el], hk.k0, hk.m0, hk.s0, hk.km, by omega, hk.l0⟩, by omega, by omega, mB.trans (Ext.mod (ext_box _ _))⟩
      unfold tt3j368
      by_cases hlt : t < at_
      · rw [if_pos hlt] at e21
        simp (disch := omega) only [bindS, boolKT, boolKF, natK0, natK1, natK2, natK3, natKS, chkKT, bin_add, bin_sub, bin_mul, bin_eql, bin_neq, bin_lss, bin_leq, bin_gtr, bin_geq, un_not, un_neg, conv_int, min_op, max_op, extract_nth, load_one, load_agg, agg_some, field_ptr, len_slice, len_str, len_arr, nil_check, nil_check_f, callTo_func, pick_true, pick_false, cells_agg, cells_int, cells_ptr, cells_slice, cells_bool, cells_str, push_box, getT_zero, getT_succ, List.getElem?_cons_zero, List.getElem?_cons_succ, List.cons_append, List.nil_append, Bool.not_true, Bool.not_false, ne_eq, not_true_eq_false, decide_false, decide_true, not_false_eq_true, Nat.add_zero, Nat.zero_add, new_box, fill_box1, fill_box1s, fill_box1p, fill_box1b, ↓reduceIte, List.all_cons, List.all_nil, Bool.and_true, Bool.and_self, one_int, one_ptr, one_slice, one_bool, one_str, one_nil, one_iface, List.length_cons, List.length_nil, boolK_pos, boolK_neg, boolK_npos, boolK_nneg, wrap_i64, wrap_u64, wrap_u8, wrap_u32, pick_pos, pick_neg, bin_quo_nn, bin_rem_nn, bin_shr1, hcx3, e5, hate, e21, hvl, j1, j2]
        unfold tt3j361
        simp (disch := omega) only [bindS, boolKT, boolKF, natK0, natK1, natK2, natK3, natKS, chkKT, bin_add, bin_sub, bin_mul, bin_eql, bin_neq, bin_lss, bin_leq, bin_gtr, bin_geq, un_not, un_neg, conv_int, min_op, max_op, extract_nth, load_one, load_agg, agg_some, field_ptr, len_slice, len_str, len_arr, nil_check, nil_check_f, callTo_func, pick_true, pick_false, cells_agg, cells_int, cells_ptr, cells_slice, cells_bool, cells_str, push_box, getT_zero, getT_succ, List.getElem?_cons_zero, List.getElem?_cons_succ, List.cons_append, List.nil_append, Bool.not_true, Bool.not_false, ne_eq, not_true_eq_false, decide_false, decide_true, not_false_eq_true, Nat.add_zero, Nat.zero_add, new_box, fill_box1, fill_box1s, fill_box1p, fill_box1b, ↓reduceIte, List.all_cons, List.all_nil, Bool.and_true, Bool.and_self, one_int, one_ptr, one_slice, one_bool, one_str, one_nil, one_iface, List.length_cons, List.length_nil, boolK_pos, boolK_neg, boolK_npos, boolK_nneg, wrap_i64, wrap_u64, wrap_u8, wrap_u32, pick_pos, pick_neg, bin_quo_nn, bin_rem_nn, bin_shr1, i1, i20, st1, st2, str_neq, hse]
        unfold tt3j353
        simp (disch := omega) only [bindS, boolKT, boolKF, natK0, natK1, natK2, natK3, natKS, chkKT, bin_add, bin_sub, bin_mul, bin_eql, bin_neq, bin_lss, bin_leq, bin_gtr, bin_geq, un_not, un_neg, conv_int, min_op, max_op, extract_nth, load_one, load_agg, agg_some, field_ptr, len_slice, len_str, len_arr, nil_check, nil_check_f, callTo_func, pick_true, pick_false, cells_agg, cells_int, cells_ptr, cells_slice, cells_bool, cells_str, push_box, getT_zero, getT_succ, List.getElem?_cons_zero, List.getElem?_cons_succ, List.cons_append, List.nil_append, Bool.not_true, Bool.not_false, ne_eq, not_true_eq_false, decide_false, decide_true, not_false_eq_true, Nat.add_zero, Nat.zero_add, new_box, fill_box1, fill_box1s, fill_box1p, fill_box1b, ↓reduceIte, List.all_cons, List.all_nil, Bool.and_true, Bool.and_self, one_int, one_ptr, one_slice, one_bool, one_str, one_nil, one_iface, List.length_cons, List.length_nil, boolK_pos, boolK_neg, boolK_npos, boolK_nneg, wrap_i64, wrap_u64, wrap_u8, wrap_u32, pick_pos, pick_neg, bin_quo_nn, bin_rem_nn, bin_shr1, t1, t2, f1, f2, f3, f4, f5, f6]
      · rw [if_neg hlt] at e21
        simp (disch := omega) only [bindS, boolKT, boolKF, natK0, natK1, natK2, natK3, natKS, chkKT, bin_add, bin_sub, bin_mul, bin_eql, bin_neq, bin_lss, bin_leq, bin_gtr, bin_geq, un_not, un_neg, conv_int, min_op, max_op, extract_nth, load_one, load_agg, agg_some, field_ptr, len_slice, len_str, len_arr, nil_check, nil_check_f, callTo_func, pick_true, pick_false, cells_agg, cells_int, cells_ptr, cells_slice, cells_bool, cells_str, push_box, getT_zero, getT_succ, List.getElem?_cons_zero, List.getElem?_cons_succ, List.cons_append, List.nil_append, Bool.not_true, Bool.not_false, ne_eq, not_true_eq_false, decide_false, decide_true, not_false_eq_true, Nat.add_zero, Nat.zero_add, new_box, fill_box1, fill_box1s, fill_box1p, fill_box1b, ↓reduceIte, List.all_cons, List.all_nil, Bool.and_true, Bool.and_self, one_int, one_ptr, one_slice, one_bool, one_str, one_nil, one_iface, List.length_cons, List.length_nil, boolK_pos, boolK_neg, boolK_npos, boolK_nneg, wrap_i64, wrap_u64, wrap_u8, wrap_u32, pick_pos, pick_neg, bin_quo_nn, bin_rem_nn, bin_shr1, hcx3, e5, hate, e21, hvl, j1, j2]
        unfold tt3j361
        simp (disch := omega) only [bindS, boolKT, boolKF, natK0, natK1, natK2, natK3, natKS, chkKT, bin_add, bin_sub, bin_mul, bin_eql, bin_neq, bin_lss, bin_leq, bin_gtr, bin_geq, un_not, un_neg, conv_int, min_op, max_op, extract_nth, load_one, load_agg, agg_some, field_ptr, len_slice, len_str, len_arr, nil_check, nil_check_f, callTo_func, pick_true, pick_false, cells_agg, cells_int, cells_ptr, cells_slice, cells_bool, cells_str, push_box, getT_zero, getT_succ, List.getElem?_cons_zero, List.getElem?_cons_succ, List.cons_append, List.nil_append, Bool.not_true, Bool.not_false, ne_eq, not_true_eq_false, decide_false, decide_true, not_false_eq_true, Nat.add_zero, Nat.zero_add, new_box, fill_box1, fill_box1s, fill_box1p, fill_box1b, ↓reduceIte, List.all_cons, List.all_nil, Bool.and_true, Bool.and_self, one_int, one_ptr, one_slice, one_bool, one_str, one_nil, one_iface, List.length_cons, List.length_nil, boolK_pos, boolK_neg, boolK_npos, boolK_nneg, wrap_i64, wrap_u64, wrap_u8, wrap_u32, pick_pos, pick_neg, bin_quo_nn, bin_rem_nn, bin_shr1, i1, i20, st1, st2, str_neq, hse]
        unfold tt3j353
        simp (disch := omega) only [bindS, boolKT, boolKF, natK0, natK1, natK2, natK3, natKS, chkKT, bin_add, bin_sub, bin_mul, bin_eql, bin_neq, bin_lss, bin_leq, bin_gtr, bin_geq, un_not, un_neg, conv_int, min_op, max_op, extract_nth, load_one, load_agg, agg_some, field_ptr, len_slice, len_str, len_arr, nil_check, nil_check_f, callTo_func, pick_true, pick_false, cells_agg, cells_int, cells_ptr, cells_slice, cells_bool, cells_str, push_box, getT_zero, getT_succ, List.getElem?_cons_zero, List.getElem?_cons_succ, List.cons_append, List.nil_append, Bool.not_true, Bool.not_false, ne_eq, not_true_eq_false, decide_false, decide_true, not_false_eq_true, Nat.add_zero, Nat.zero_add, new_box, fill_box1, fill_box1s, fill_box1p, fill_box1b, ↓reduceIte, List.all_cons, List.all_nil, Bool.and_true, Bool.and_self, one_int, one_ptr, one_slice, one_bool, one_str, one_nil, one_iface, List.length_cons, List.length_nil, boolK_pos, boolK_neg, boolK_npos, boolK_nneg, wrap_i64, wrap_u64, wrap_u8, wrap_u32, pick_pos, pick_neg, bin_quo_nn, bin_rem_nn, bin_shr1, t1, t2, f1, f2, f3, f4, f5, f6]
end
end Go.Abs
