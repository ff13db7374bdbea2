/-
  THE LAW's LOOP: each act.
-/
import Derived.Test.YtbomdnmkhegfnaaGreatDoorSpecSix
set_option linter.all false
namespace Go.Abs
open Go.Proofs Go.Tt

/-- What a round leaves. -/
def Acted (B : Nat) (H : AHeap) (pt bl T : Nat) (tsl : Value) (kind most size rate burst : Int) (s5 s14 s15 : Value) (i lost : Int) (now : Nat) (r : Option (Nat × List Value × AHeap)) : Prop :=
  ∃ H' bc c q left lost' vr vw rv now', r = some (0, MV kind most size rate s5 s14 s15 pt burst bc bl left lost' vr vw ((now' : Nat) : Int) (i + 1), H') ∧
    ML B H' pt bc bl T tsl c q q rate burst left vr vw rv ∧ ChK c kind most size lost' q ∧ lost' ≤ lost + 1 ∧ now' ≤ now + 513 ∧ Mod (B ≤ ·) H H'

section
variable {B : Nat} {H : AHeap} {pt bc bl T : Nat} {tsl : Value} {c : Chan} {q : Queue} {rate burst left : Int} {vr vw : Value} {rv : List (Nat × Nat)}

set_option maxHeartbeats 4000000 in
/-- A send that may be. -/
theorem j270 {m : Nat} (hm : 2 ≤ m) (h : ML B H pt bc bl T tsl c q q rate burst left vr vw rv) {kind most size lost : Int} (hk : ChK c kind most size lost q) (hll : lost ≤ 1000) {bx b49 : Nat} {a : Sp} (ha : SpIn a)
    (hx : Row H bx (spcells a)) (h49 : Row H b49 (capL rate burst (left - 1))) (hleft : 0 < left) (nx : bx ≠ bc ∧ bx ≠ bl) (s5 s14 s15 : Value) {now : Nat} (hnow : now ≤ 9223372036854900000) {i : Int} (hi : 0 ≤ i ∧ i ≤ 99) :
    Acted B H pt bl T tsl kind most size rate burst s5 s14 s15 i lost now (tt3j270 (ttD m) (.int .i64 kind) (.int .i64 most) (.int .i64 size) (.int .i64 rate) s5 s14 s15 (.pointer (some ⟨pt, 0, none⟩)) (.int .i64 burst) (.pointer (some ⟨bc, 0, none⟩)) (.pointer (some ⟨bl, 0, none⟩)) (.int .i64 left) (.int .u64 lost) vr vw (.int .u64 now) (.int .i64 i) (.pointer (some ⟨bx, 0, none⟩)) (.pointer (some ⟨b49, 0, none⟩)) (.bool true) H) := by
  obtain ⟨k1, k2, k3, k4, k5, k6, k7, k8, k9, k10⟩ := id hk
  obtain ⟨a1, a2, a3, a4⟩ := ha
  have hq5 : q.length ≤ 5 := by omega
  have hcap := h.cap
  obtain ⟨p1, p2, p3, p4, p5⟩ := id hcap
  -- the cap
  have hst := store_all (n := 3) h.hl rfl (vs := capL rate burst (left - 1)) rfl rfl
  have md : Mod (· = bl) H (H.set bl (some (.cells (capL rate burst (left - 1))))) := Mod.set (F := (· = bl)) rfl _
  have h1 := h.setCap md (h.hl.setEq _) (show CapOk rate burst (left - 1) from ⟨p1, p2, p3, by omega, by omega⟩)
  have hx1 := hx.mod md nx.2
  generalize hH1 : H.set bl (some (.cells (capL rate burst (left - 1)))) = H1 at *
  have hn1 : H1.next = H.next := by rw [← hH1]; rfl
  -- the bytes
  have n0 := sparOf_nn (x := a.b) (show (0 : Int) < size + 2 by omega)
  have n1 := sparOf_lt (x := a.b) (show (0 : Int) < size + 2 by omega)
  obtain ⟨n, hn⟩ := Int.eq_ofNat_of_zero_le n0
  have hn : sparOf a.b (size + 2) = (n : Int) := hn
  have hmk := make_bytes n (by omega)
  have hb0 : Has (box H1 (bcells (List.replicate n 0))) H1.next (.cells (bcells (List.replicate n 0))) := has_box _ _
  have x2 := ext_box H1 (bcells (List.replicate n 0))
  obtain ⟨bs, H2, e97, hbl, hbs, m2⟩ := l97 (m := m) (bb := H1.next) (n := n) (i := i) (by omega) (by omega) (.int .i64 kind) (.int .i64 most) (.int .i64 size) (.int .i64 rate) s5 s14 s15 (.pointer (some ⟨pt, 0, none⟩)) (.int .i64 burst) (.pointer (some ⟨bc, 0, none⟩)) (.pointer (some ⟨bl, 0, none⟩)) (.int .i64 (left - 1)) (.int .u64 lost) vr vw (.int .u64 now) (.pointer (some ⟨bx, 0, none⟩)) n (k := 0) (by omega) (by simp) hb0 rounds (lt_rounds (by omega))
  have x12 : Ext H1 H2 := ⟨Nat.le_trans x2.1 m2.1, fun b hb _ => by rw [m2.2 b (Nat.lt_of_lt_of_le hb x2.1) (by omega), x2.2 b hb (fun h => h)]⟩
  have h2 := h1.ext x12
  have hx2 := hx1.ext x12
  have hcn := h1.hc.1
  have hln := h1.hl.1
  have nbb : H1.next ≠ bc ∧ H1.next ≠ bl ∧ vblk vr ≠ some H1.next ∧ vblk vw ≠ some H1.next := ⟨by omega, by omega, fun hh => by have := h1.hr.lt _ hh; omega, fun hh => by have := h1.hw.lt _ hh; omega⟩
  -- the time
  have c0 := sparOf_nn (x := a.c) (show (0 : Int) < 3 by omega)
  have c1 := sparOf_lt (x := a.c) (show (0 : Int) < 3 by omega)
  have hat : InU (IntKind.u64.wrap ((now : Int) - sparOf a.c 3)) := by rw [wrap_u64_mod]; constructor <;> omega
  obtain ⟨at_, hate⟩ : ∃ t, IntKind.u64.wrap ((now : Int) - sparOf a.c 3) = t := ⟨_, rfl⟩
  rw [hate] at hat
  have hsl : Sl H2 (.slice (some ⟨H1.next, 0, none⟩) n 1) 1 bcell bs := by have := sl_bytes hbs; rw [hbl] at this; exact this
  have hcx := cell_at hx1 2
  have hcx3 := cell_at hx2 3
  simp only [spcells, List.getElem?_cons_succ, List.getElem?_cons_zero] at hcx hcx3
  have mB : Mod (B ≤ ·) H H2 := (md.mono fun b _ hb => by have := h.bB; omega).trans x12.mod
  have hlen2 := h2.hr.sl.len
  have hlen := h.len
  have e97' : iterL (tt3l97b (ttD m)) rounds [.int .i64 kind, .int .i64 most, .int .i64 size, .int .i64 rate, s5, s14, s15, .pointer (some ⟨pt, 0, none⟩), .int .i64 burst, .pointer (some ⟨bc, 0, none⟩), .pointer (some ⟨bl, 0, none⟩), .int .i64 (left - 1), .int .u64 lost, vr, vw, .int .u64 now, .int .i64 i, .pointer (some ⟨bx, 0, none⟩), .slice (some ⟨H1.next, 0, none⟩) n 1, .int .i64 n, .int .i64 0] (box H1 (bcells (List.replicate n 0))) = _ := e97
  have hbn : (bs.length : Int) = n := by omega
  unfold Acted tt3j270
  by_cases hbig : size < n
  · have hs : sendP kind most size q lost bs at_ = (1, q, lost) := by unfold sendP; rw [if_pos (by omega)]
    obtain ⟨H3, c3, e3, g1, g2, g3, g4⟩ := j252 hm h2 hk hll hs hsl (by omega) s5 s14 s15 now (i := i) (by omega)
    refine ⟨H3, bc, c3, q, left - 1, lost, vr, vw, rv, now, ?_, g1, g2, g3, by omega, mB.trans g4⟩
    simp (disch := omega) only [bindS, boolKT, boolKF, natK0, natK1, natK2, natK3, natKS, chkKT, bin_add, bin_sub, bin_mul, bin_eql, bin_neq, bin_lss, bin_leq, bin_gtr, bin_geq, un_not, un_neg, conv_int, min_op, max_op, extract_nth, load_one, load_agg, agg_some, field_ptr, len_slice, len_str, len_arr, nil_check, nil_check_f, callTo_func, pick_true, pick_false, cells_agg, cells_int, cells_ptr, cells_slice, cells_bool, cells_str, push_box, getT_zero, getT_succ, List.getElem?_cons_zero, List.getElem?_cons_succ, List.cons_append, List.nil_append, Bool.not_true, Bool.not_false, ne_eq, not_true_eq_false, decide_false, decide_true, not_false_eq_true, Nat.add_zero, Nat.zero_add, new_box, fill_box1, fill_box1s, fill_box1p, fill_box1b, ↓reduceIte, List.all_cons, List.all_nil, Bool.and_true, Bool.and_self, one_int, one_ptr, one_slice, one_bool, one_str, one_nil, one_iface, List.length_cons, List.length_nil, boolK_pos, boolK_neg, boolK_npos, boolK_nneg, wrap_i64, wrap_u64, wrap_u8, wrap_u32, pick_pos, pick_neg, bin_quo_nn, bin_rem_nn, bin_shr1, cells_all (n := 3) h49 rfl, hst, hcx, Go.Abs.s5 (m := m) (by omega) a3 (show (0 : Int) < size + 2 by omega), hn, hmk]
    rw [e97']
    simp (disch := omega) only [bindS, boolKT, boolKF, natK0, natK1, natK2, natK3, natKS, chkKT, bin_add, bin_sub, bin_mul, bin_eql, bin_neq, bin_lss, bin_leq, bin_gtr, bin_geq, un_not, un_neg, conv_int, min_op, max_op, extract_nth, load_one, load_agg, agg_some, field_ptr, len_slice, len_str, len_arr, nil_check, nil_check_f, callTo_func, pick_true, pick_false, cells_agg, cells_int, cells_ptr, cells_slice, cells_bool, cells_str, push_box, getT_zero, getT_succ, List.getElem?_cons_zero, List.getElem?_cons_succ, List.cons_append, List.nil_append, Bool.not_true, Bool.not_false, ne_eq, not_true_eq_false, decide_false, decide_true, not_false_eq_true, Nat.add_zero, Nat.zero_add, new_box, fill_box1, fill_box1s, fill_box1p, fill_box1b, ↓reduceIte, List.all_cons, List.all_nil, Bool.and_true, Bool.and_self, one_int, one_ptr, one_slice, one_bool, one_str, one_nil, one_iface, List.length_cons, List.length_nil, boolK_pos, boolK_neg, boolK_npos, boolK_nneg, wrap_i64, wrap_u64, wrap_u8, wrap_u32, pick_pos, pick_neg, bin_quo_nn, bin_rem_nn, bin_shr1, hcx3, Go.Abs.s5 (m := m) (by omega) a4 (show (0 : Int) < 3 by omega), hate, e3]
  · by_cases hk0 : kind = 0
    · have hs : sendP kind most size q lost bs at_ = (0, [(bs, at_)], lost) := by unfold sendP; rw [if_neg (by omega), if_pos hk0]
      have h3 := h2.single hbs ⟨nbb.1, nbb.2.1⟩ hat
      have x3 : Ext H2 (box (box H2 (scell (H1.next, bs.length))) (ucell at_)) := (ext_box _ _).trans (ext_box _ _)
      obtain ⟨H3, c3, e3, g1, g2, g3, g4⟩ := j252 hm h3 hk hll hs (hsl.ext x3) (by omega) s5 s14 s15 now (i := i) (by omega)
      refine ⟨H3, bc, c3, _, left - 1, lost, _, _, _, now, ?_, g1, g2, g3, by omega, (mB.trans x3.mod).trans g4⟩
      have hbs' := build_s (H1.next, bs.length)
      simp only [hbl] at hbs' e3
      simp (disch := omega) only [bindS, boolKT, boolKF, natK0, natK1, natK2, natK3, natKS, chkKT, bin_add, bin_sub, bin_mul, bin_eql, bin_neq, bin_lss, bin_leq, bin_gtr, bin_geq, un_not, un_neg, conv_int, min_op, max_op, extract_nth, load_one, load_agg, agg_some, field_ptr, len_slice, len_str, len_arr, nil_check, nil_check_f, callTo_func, pick_true, pick_false, cells_agg, cells_int, cells_ptr, cells_slice, cells_bool, cells_str, push_box, getT_zero, getT_succ, List.getElem?_cons_zero, List.getElem?_cons_succ, List.cons_append, List.nil_append, Bool.not_true, Bool.not_false, ne_eq, not_true_eq_false, decide_false, decide_true, not_false_eq_true, Nat.add_zero, Nat.zero_add, new_box, fill_box1, fill_box1s, fill_box1p, fill_box1b, ↓reduceIte, List.all_cons, List.all_nil, Bool.and_true, Bool.and_self, one_int, one_ptr, one_slice, one_bool, one_str, one_nil, one_iface, List.length_cons, List.length_nil, boolK_pos, boolK_neg, boolK_npos, boolK_nneg, wrap_i64, wrap_u64, wrap_u8, wrap_u32, pick_pos, pick_neg, bin_quo_nn, bin_rem_nn, bin_shr1, cells_all (n := 3) h49 rfl, hst, hcx, Go.Abs.s5 (m := m) (by omega) a3 (show (0 : Int) < size + 2 by omega), hn, hmk]
      rw [e97']
      simp (disch := omega) only [bindS, boolKT, boolKF, natK0, natK1, natK2, natK3, natKS, chkKT, bin_add, bin_sub, bin_mul, bin_eql, bin_neq, bin_lss, bin_leq, bin_gtr, bin_geq, un_not, un_neg, conv_int, min_op, max_op, extract_nth, load_one, load_agg, agg_some, field_ptr, len_slice, len_str, len_arr, nil_check, nil_check_f, callTo_func, pick_true, pick_false, cells_agg, cells_int, cells_ptr, cells_slice, cells_bool, cells_str, push_box, getT_zero, getT_succ, List.getElem?_cons_zero, List.getElem?_cons_succ, List.cons_append, List.nil_append, Bool.not_true, Bool.not_false, ne_eq, not_true_eq_false, decide_false, decide_true, not_false_eq_true, Nat.add_zero, Nat.zero_add, new_box, fill_box1, fill_box1s, fill_box1p, fill_box1b, ↓reduceIte, List.all_cons, List.all_nil, Bool.and_true, Bool.and_self, one_int, one_ptr, one_slice, one_bool, one_str, one_nil, one_iface, List.length_cons, List.length_nil, boolK_pos, boolK_neg, boolK_npos, boolK_nneg, wrap_i64, wrap_u64, wrap_u8, wrap_u32, pick_pos, pick_neg, bin_quo_nn, bin_rem_nn, bin_shr1, hcx3, Go.Abs.s5 (m := m) (by omega) a4 (show (0 : Int) < 3 by omega), hate, hbs', build_u, next_box, e3]
    · by_cases hfull : (q.length : Int) = most
      · by_cases hk1 : kind = 1
        · have hs : sendP kind most size q lost bs at_ = (5, q, lost) := by unfold sendP; rw [if_neg (by omega), if_neg hk0, if_pos hfull, if_pos hk1]
          obtain ⟨H3, c3, e3, g1, g2, g3, g4⟩ := j252 hm h2 hk hll hs hsl (by omega) s5 s14 s15 now (i := i) (by omega)
          refine ⟨H3, bc, c3, q, left - 1, lost, vr, vw, rv, now, ?_, g1, g2, g3, by omega, mB.trans g4⟩
          simp (disch := omega) only [bindS, boolKT, boolKF, natK0, natK1, natK2, natK3, natKS, chkKT, bin_add, bin_sub, bin_mul, bin_eql, bin_neq, bin_lss, bin_leq, bin_gtr, bin_geq, un_not, un_neg, conv_int, min_op, max_op, extract_nth, load_one, load_agg, agg_some, field_ptr, len_slice, len_str, len_arr, nil_check, nil_check_f, callTo_func, pick_true, pick_false, cells_agg, cells_int, cells_ptr, cells_slice, cells_bool, cells_str, push_box, getT_zero, getT_succ, List.getElem?_cons_zero, List.getElem?_cons_succ, List.cons_append, List.nil_append, Bool.not_true, Bool.not_false, ne_eq, not_true_eq_false, decide_false, decide_true, not_false_eq_true, Nat.add_zero, Nat.zero_add, new_box, fill_box1, fill_box1s, fill_box1p, fill_box1b, ↓reduceIte, List.all_cons, List.all_nil, Bool.and_true, Bool.and_self, one_int, one_ptr, one_slice, one_bool, one_str, one_nil, one_iface, List.length_cons, List.length_nil, boolK_pos, boolK_neg, boolK_npos, boolK_nneg, wrap_i64, wrap_u64, wrap_u8, wrap_u32, pick_pos, pick_neg, bin_quo_nn, bin_rem_nn, bin_shr1, cells_all (n := 3) h49 rfl, hst, hcx, Go.Abs.s5 (m := m) (by omega) a3 (show (0 : Int) < size + 2 by omega), hn, hmk]
          rw [e97']
          unfold tt3j265
          simp (disch := omega) only [bindS, boolKT, boolKF, natK0, natK1, natK2, natK3, natKS, chkKT, bin_add, bin_sub, bin_mul, bin_eql, bin_neq, bin_lss, bin_leq, bin_gtr, bin_geq, un_not, un_neg, conv_int, min_op, max_op, extract_nth, load_one, load_agg, agg_some, field_ptr, len_slice, len_str, len_arr, nil_check, nil_check_f, callTo_func, pick_true, pick_false, cells_agg, cells_int, cells_ptr, cells_slice, cells_bool, cells_str, push_box, getT_zero, getT_succ, List.getElem?_cons_zero, List.getElem?_cons_succ, List.cons_append, List.nil_append, Bool.not_true, Bool.not_false, ne_eq, not_true_eq_false, decide_false, decide_true, not_false_eq_true, Nat.add_zero, Nat.zero_add, new_box, fill_box1, fill_box1s, fill_box1p, fill_box1b, ↓reduceIte, List.all_cons, List.all_nil, Bool.and_true, Bool.and_self, one_int, one_ptr, one_slice, one_bool, one_str, one_nil, one_iface, List.length_cons, List.length_nil, boolK_pos, boolK_neg, boolK_npos, boolK_nneg, wrap_i64, wrap_u64, wrap_u8, wrap_u32, pick_pos, pick_neg, bin_quo_nn, bin_rem_nn, bin_shr1, hcx3, Go.Abs.s5 (m := m) (by omega) a4 (show (0 : Int) < 3 by omega), hate, hlen2, e3]
        · have hs : sendP kind most size q lost bs at_ = (0, q, lost + 1) := by unfold sendP; rw [if_neg (by omega), if_neg hk0, if_pos hfull, if_neg hk1]
          obtain ⟨H3, c3, e3, g1, g2, g3, g4⟩ := j252 hm h2 hk hll hs hsl (by omega) s5 s14 s15 now (i := i) (by omega)
          refine ⟨H3, bc, c3, q, left - 1, lost + 1, vr, vw, rv, now, ?_, g1, g2, g3, by omega, mB.trans g4⟩
          simp (disch := omega) only [bindS, boolKT, boolKF, natK0, natK1, natK2, natK3, natKS, chkKT, bin_add, bin_sub, bin_mul, bin_eql, bin_neq, bin_lss, bin_leq, bin_gtr, bin_geq, un_not, un_neg, conv_int, min_op, max_op, extract_nth, load_one, load_agg, agg_some, field_ptr, len_slice, len_str, len_arr, nil_check, nil_check_f, callTo_func, pick_true, pick_false, cells_agg, cells_int, cells_ptr, cells_slice, cells_bool, cells_str, push_box, getT_zero, getT_succ, List.getElem?_cons_zero, List.getElem?_cons_succ, List.cons_append, List.nil_append, Bool.not_true, Bool.not_false, ne_eq, not_true_eq_false, decide_false, decide_true, not_false_eq_true, Nat.add_zero, Nat.zero_add, new_box, fill_box1, fill_box1s, fill_box1p, fill_box1b, ↓reduceIte, List.all_cons, List.all_nil, Bool.and_true, Bool.and_self, one_int, one_ptr, one_slice, one_bool, one_str, one_nil, one_iface, List.length_cons, List.length_nil, boolK_pos, boolK_neg, boolK_npos, boolK_nneg, wrap_i64, wrap_u64, wrap_u8, wrap_u32, pick_pos, pick_neg, bin_quo_nn, bin_rem_nn, bin_shr1, cells_all (n := 3) h49 rfl, hst, hcx, Go.Abs.s5 (m := m) (by omega) a3 (show (0 : Int) < size + 2 by omega), hn, hmk]
          rw [e97']
          unfold tt3j265
          simp (disch := omega) only [bindS, boolKT, boolKF, natK0, natK1, natK2, natK3, natKS, chkKT, bin_add, bin_sub, bin_mul, bin_eql, bin_neq, bin_lss, bin_leq, bin_gtr, bin_geq, un_not, un_neg, conv_int, min_op, max_op, extract_nth, load_one, load_agg, agg_some, field_ptr, len_slice, len_str, len_arr, nil_check, nil_check_f, callTo_func, pick_true, pick_false, cells_agg, cells_int, cells_ptr, cells_slice, cells_bool, cells_str, push_box, getT_zero, getT_succ, List.getElem?_cons_zero, List.getElem?_cons_succ, List.cons_append, List.nil_append, Bool.not_true, Bool.not_false, ne_eq, not_true_eq_false, decide_false, decide_true, not_false_eq_true, Nat.add_zero, Nat.zero_add, new_box, fill_box1, fill_box1s, fill_box1p, fill_box1b, ↓reduceIte, List.all_cons, List.all_nil, Bool.and_true, Bool.and_self, one_int, one_ptr, one_slice, one_bool, one_str, one_nil, one_iface, List.length_cons, List.length_nil, boolK_pos, boolK_neg, boolK_npos, boolK_nneg, wrap_i64, wrap_u64, wrap_u8, wrap_u32, pick_pos, pick_neg, bin_quo_nn, bin_rem_nn, bin_shr1, hcx3, Go.Abs.s5 (m := m) (by omega) a4 (show (0 : Int) < 3 by omega), hate, hlen2, e3]
      · have hs : sendP kind most size q lost bs at_ = (0, q ++ [(bs, at_)], lost) := by unfold sendP; rw [if_neg (by omega), if_neg hk0, if_neg hfull]
        obtain ⟨vr', H3, vw', H4, a1', a2', h4, m4⟩ := h2.push hbs nbb hat (by omega)
        have hsl4 : Sl H4 (.slice (some ⟨H1.next, 0, none⟩) n 1) 1 bcell bs := by
          have := h4.rows rv.length (H1.next, bs.length) bs at_ (by simp) (by rw [hlen]; simp)
          rw [hbl] at this; exact this
        obtain ⟨H5, c5, e5, g1, g2, g3, g4⟩ := j252 hm h4 hk hll hs hsl4 (by omega) s5 s14 s15 now (i := i) (by omega)
        refine ⟨H5, bc, c5, _, left - 1, lost, _, _, _, now, ?_, g1, g2, g3, by omega, (mB.trans m4).trans g4⟩
        have hbs' := build_s (H1.next, bs.length)
        simp only [hbl] at hbs' e5 a1'
        simp (disch := omega) only [bindS, boolKT, boolKF, natK0, natK1, natK2, natK3, natKS, chkKT, bin_add, bin_sub, bin_mul, bin_eql, bin_neq, bin_lss, bin_leq, bin_gtr, bin_geq, un_not, un_neg, conv_int, min_op, max_op, extract_nth, load_one, load_agg, agg_some, field_ptr, len_slice, len_str, len_arr, nil_check, nil_check_f, callTo_func, pick_true, pick_false, cells_agg, cells_int, cells_ptr, cells_slice, cells_bool, cells_str, push_box, getT_zero, getT_succ, List.getElem?_cons_zero, List.getElem?_cons_succ, List.cons_append, List.nil_append, Bool.not_true, Bool.not_false, ne_eq, not_true_eq_false, decide_false, decide_true, not_false_eq_true, Nat.add_zero, Nat.zero_add, new_box, fill_box1, fill_box1s, fill_box1p, fill_box1b, ↓reduceIte, List.all_cons, List.all_nil, Bool.and_true, Bool.and_self, one_int, one_ptr, one_slice, one_bool, one_str, one_nil, one_iface, List.length_cons, List.length_nil, boolK_pos, boolK_neg, boolK_npos, boolK_nneg, wrap_i64, wrap_u64, wrap_u8, wrap_u32, pick_pos, pick_neg, bin_quo_nn, bin_rem_nn, bin_shr1, cells_all (n := 3) h49 rfl, hst, hcx, Go.Abs.s5 (m := m) (by omega) a3 (show (0 : Int) < size + 2 by omega), hn, hmk]
        rw [e97']
        unfold tt3j265
        simp (disch := omega) only [bindS, boolKT, boolKF, natK0, natK1, natK2, natK3, natKS, chkKT, bin_add, bin_sub, bin_mul, bin_eql, bin_neq, bin_lss, bin_leq, bin_gtr, bin_geq, un_not, un_neg, conv_int, min_op, max_op, extract_nth, load_one, load_agg, agg_some, field_ptr, len_slice, len_str, len_arr, nil_check, nil_check_f, callTo_func, pick_true, pick_false, cells_agg, cells_int, cells_ptr, cells_slice, cells_bool, cells_str, push_box, getT_zero, getT_succ, List.getElem?_cons_zero, List.getElem?_cons_succ, List.cons_append, List.nil_append, Bool.not_true, Bool.not_false, ne_eq, not_true_eq_false, decide_false, decide_true, not_false_eq_true, Nat.add_zero, Nat.zero_add, new_box, fill_box1, fill_box1s, fill_box1p, fill_box1b, ↓reduceIte, List.all_cons, List.all_nil, Bool.and_true, Bool.and_self, one_int, one_ptr, one_slice, one_bool, one_str, one_nil, one_iface, List.length_cons, List.length_nil, boolK_pos, boolK_neg, boolK_npos, boolK_nneg, wrap_i64, wrap_u64, wrap_u8, wrap_u32, pick_pos, pick_neg, bin_quo_nn, bin_rem_nn, bin_shr1, hcx3, Go.Abs.s5 (m := m) (by omega) a4 (show (0 : Int) < 3 by omega), hate, hlen2, hbs', build_u, a1', a2', e5]
end
end Go.Abs
