/-
  THE LAW's TABLE IS LAID.
-/
import Derived.Test.YtbomdnmkhegfnaaGreatDoorSpecThree
set_option linter.all false
namespace Go.Abs
open Go.Proofs Go.Tt

/-! ## What the law owns while it lays its table -/

theorem icell_one (x : Int) : (icell x).all oneCell = true := rfl
theorem wcells_one (w : Win) : (wcells w).all oneCell = true := rfl

structure TB (B : Nat) (H : AHeap) (pt : Nat) (T : Int) (sl sw sk : Value) (ws : List Win) (who which : List Int) : Prop where
  hpt : Has H pt (.cells [.int .i64 T, sl])
  osl : Own H sl 3 wcells ws
  osw : Own H sw 1 icell who
  osk : Own H sk 1 icell which
  bp : B ≤ pt
  bl : ∀ b, vblk sl = some b → B ≤ b ∧ b ≠ pt
  bw : ∀ b, vblk sw = some b → B ≤ b ∧ b ≠ pt ∧ vblk sl ≠ some b
  bk : ∀ b, vblk sk = some b → B ≤ b ∧ b ≠ pt ∧ vblk sl ≠ some b ∧ vblk sw ≠ some b

section
variable {B : Nat} {H : AHeap} {pt : Nat} {T : Int} {sl sw sk : Value} {ws : List Win} {who which : List Int}

theorem TB.base (h : TB B H pt T sl sw sk ws who which) : B ≤ H.next := by have := h.hpt.1; have := h.bp; omega

theorem TB.ext {H' : AHeap} (h : TB B H pt T sl sw sk ws who which) (hx : Ext H H') : TB B H' pt T sl sw sk ws who which :=
  ⟨h.hpt.ext hx, h.osl.ext hx, h.osw.ext hx, h.osk.ext hx, h.bp, h.bl, h.bw, h.bk⟩

theorem TB.addWho (h : TB B H pt T sl sw sk ws who which) (hl : who.length ≤ 100000) (x : Int) :
    ∃ sw' H', appendA (some (1, 8)) sw (.slice (some ⟨H.next, 0, none⟩) 1 1) (box H (icell x)) = some (sw', H') ∧ TB B H' pt T sl sw' sk ws (who ++ [x]) which ∧ Mod (fun b => vblk sw = some b) H H' ∧ (∀ b, vblk sw' = some b → H.next < b) := by
  obtain ⟨v', H', e, g1, g2, g3⟩ := append_one (w := 8) (by omega) icell_len icell_one h.osw x (by omega) (by omega)
  refine ⟨v', H', e, ⟨h.hpt.mod g2 (fun hb => (h.bw _ hb).2.1 rfl), h.osl.mod g2 (fun b hb hb' => (h.bw b hb').2.2 hb), g1, h.osk.mod g2 (fun b hb hb' => (h.bk b hb).2.2.2 hb'), h.bp, h.bl, fun b hb => ?_, fun b hb => ?_⟩, g2, g3⟩
  · have h1 := g3 b hb
    have h2 := h.hpt.1
    have h3 := h.base
    exact ⟨by omega, by omega, fun hb' => by have := h.osl.lt b hb'; omega⟩
  · obtain ⟨h1, h2, h3, h4⟩ := h.bk b hb
    exact ⟨h1, h2, h3, fun hb' => by have := g3 b hb'; have := h.osk.lt b hb; omega⟩
theorem TB.addWhich (h : TB B H pt T sl sw sk ws who which) (hl : which.length ≤ 100000) (x : Int) :
    ∃ sk' H', appendA (some (1, 8)) sk (.slice (some ⟨H.next, 0, none⟩) 1 1) (box H (icell x)) = some (sk', H') ∧ TB B H' pt T sl sw sk' ws who (which ++ [x]) ∧ Mod (fun b => vblk sk = some b) H H' ∧ (∀ b, vblk sk' = some b → H.next < b) := by
  obtain ⟨v', H', e, g1, g2, g3⟩ := append_one (w := 8) (by omega) icell_len icell_one h.osk x (by omega) (by omega)
  refine ⟨v', H', e, ⟨h.hpt.mod g2 (fun hb => (h.bk _ hb).2.1 rfl), h.osl.mod g2 (fun b hb hb' => (h.bk b hb').2.2.1 hb), h.osw.mod g2 (fun b hb hb' => (h.bk b hb').2.2.2 hb), g1, h.bp, h.bl, h.bw, fun b hb => ?_⟩, g2, g3⟩
  have h1 := g3 b hb
  have h2 := h.hpt.1
  have h3 := h.base
  exact ⟨by omega, by omega, fun hb' => by have := h.osl.lt b hb'; omega, fun hb' => by have := h.osw.lt b hb'; omega⟩
theorem TB.addWin (h : TB B H pt T sl sw sk ws who which) (hl : ws.length ≤ 10) (w : Win) :
    ∃ sl' H' H'', appendA (some (3, 24)) sl (.slice (some ⟨H.next, 0, none⟩) 1 3) (box H (wcells w)) = some (sl', H') ∧ storeA (some 1) (.pointer (some ⟨pt, 1, none⟩)) sl' H' = some (undef, H'') ∧
      TB B H'' pt T sl' sw sk (ws ++ [w]) who which ∧ Mod (fun b => vblk sl = some b ∨ b = pt) H H'' ∧ (∀ b, vblk sl' = some b → H.next < b) := by
  obtain ⟨v', H', e, g1, g2, g3⟩ := append_one (w := 24) (by omega) wcells_len wcells_one h.osl w (by omega) (by omega)
  have hp' := h.hpt.mod g2 (fun hb => (h.bl _ hb).2 rfl)
  have hst := store_one hp' (o := 1) (by simp) (v := v') g1.sl.cellsOf g1.one
  have g4 : Mod (fun b => b = pt) H' (H'.set pt (some (.cells [.int .i64 T, v']))) := Mod.set (F := fun b => b = pt) rfl _
  have hne : ∀ b, vblk v' = some b → b ≠ pt := fun b hb => by have := g3 b hb; have := h.hpt.1; omega
  refine ⟨v', H', _, e, hst, ⟨hp'.setEq _, g1.mod g4 hne, (h.osw.mod g2 (fun b hb hb' => (h.bw b hb).2.2 hb')).mod g4 (fun b hb => (h.bw b hb).2.1), (h.osk.mod g2 (fun b hb hb' => (h.bk b hb).2.2.1 hb')).mod g4 (fun b hb => (h.bk b hb).2.1), h.bp, fun b hb => ⟨?_, hne b hb⟩, fun b hb => ?_, fun b hb => ?_⟩, (g2.mono fun b _ hb => .inl hb).then g4 fun b _ hb => .inr hb, g3⟩
  · have := g3 b hb; have := h.base; omega
  · obtain ⟨h1, h2, h3⟩ := h.bw b hb
    exact ⟨h1, h2, fun hb' => by have := g3 b hb'; have := h.osw.lt b hb; omega⟩
  · obtain ⟨h1, h2, h3, h4⟩ := h.bk b hb
    exact ⟨h1, h2, fun hb' => by have := g3 b hb'; have := h.osk.lt b hb; omega, h4⟩
end

theorem build_i (x : Int) : buildSliceA (some (1, 8, [.int .i64 0])) 1 [(0, .int .i64 x)] = some (.cells (icell x), fun i => .slice (some ⟨i, 0, none⟩) 1 1) := build_one 1 8 _ _ (by omega) (by omega) rfl rfl rfl
theorem build_w (w : Win) : buildSliceA (some (3, 24, [.int .i64 0, .int .i64 0, .int .i64 0])) 1 [(0, .agg (wcells w).toArray)] = some (.cells (wcells w), fun i => .slice (some ⟨i, 0, none⟩) 1 3) := build_one 3 24 _ _ (by omega) (by omega) rfl rfl rfl

/-! ## The loops that lay places -/

/-- Places that are nobody's. -/
theorem l9 {m : Nat} {B pt : Nat} {sl : Value} {ws : List Win} {T : Int} (s0 s1 s2 s3 s4 s5 s6 s15 s19 s20 : Value) (k : Nat) (hk : k ≤ 100) :
    ∀ {H : AHeap} {sw sk : Value} {who which : List Int}, TB B H pt T sl sw sk ws who which → Lay ws who which → who.length + k ≤ 10000 → ∀ M, k < M →
    ∃ sw' sk' who' which' H', iterL (tt3l9b (ttD m)) M [s0, s1, s2, s3, s4, s5, s6, s15, .pointer (some ⟨pt, 0, none⟩), sw, sk, s19, s20, .int .i64 k] H = some (0, [s0, s1, s2, s3, s4, s5, s6, s15, .pointer (some ⟨pt, 0, none⟩), sw', sk', s19, s20, .int .i64 0], H') ∧
      TB B H' pt T sl sw' sk' ws who' which' ∧ Lay ws who' which' ∧ who'.length = who.length + k ∧ Mod (fun b => vblk sw = some b ∨ vblk sk = some b) H H' ∧
      (∀ b, vblk sw' = some b → vblk sw = some b ∨ H.next < b) ∧ (∀ b, vblk sk' = some b → vblk sk = some b ∨ H.next < b) := by
  induction k with
  | zero =>
    intro H sw sk who which h hy hl M hM
    obtain ⟨M, rfl⟩ : ∃ j, M = j + 1 := ⟨M - 1, by omega⟩
    refine ⟨sw, sk, who, which, H, iter_exit ?_, h, hy, rfl, Mod.refl, fun b hb => .inl hb, fun b hb => .inl hb⟩
    unfold tt3l9b tt3l9
    simp (disch := omega) only [bindS, boolKT, boolKF, natK0, natK1, natK2, natK3, natKS, chkKT, bin_add, bin_sub, bin_mul, bin_eql, bin_neq, bin_lss, bin_leq, bin_gtr, bin_geq, un_not, un_neg, conv_int, min_op, max_op, extract_nth, load_one, load_agg, agg_some, field_ptr, len_slice, len_str, len_arr, nil_check, nil_check_f, callTo_func, pick_true, pick_false, cells_agg, cells_int, cells_ptr, cells_slice, cells_bool, cells_str, push_box, getT_zero, getT_succ, List.getElem?_cons_zero, List.getElem?_cons_succ, List.cons_append, List.nil_append, Bool.not_true, Bool.not_false, ne_eq, not_true_eq_false, decide_false, decide_true, not_false_eq_true, Nat.add_zero, Nat.zero_add, new_box, fill_box1, fill_box1s, fill_box1p, fill_box1b, ↓reduceIte, List.all_cons, List.all_nil, Bool.and_true, Bool.and_self, one_int, one_ptr, one_slice, one_bool, one_str, one_nil, one_iface, List.length_cons, List.length_nil, boolK_pos, boolK_neg, boolK_npos, boolK_nneg, wrap_i64, wrap_u64, wrap_u8, wrap_u32, pick_pos, pick_neg, bin_quo_nn, bin_rem_nn, bin_shr1]
    try rfl
  | succ k ih =>
    intro H sw sk who which h hy hl M hM
    obtain ⟨M, rfl⟩ : ∃ j, M = j + 1 := ⟨M - 1, by omega⟩
    obtain ⟨sw1, H1, e1, t1, m1, n1'⟩ := h.addWho (by omega) (-1)
    obtain ⟨sk1, H2, e2, t2, m2, n2'⟩ := t1.addWhich (by have := hy.len; omega) (-1)
    obtain ⟨sw', sk', who', which', H', e, t, y, l, md, p1, p2⟩ := ih (by omega) t2 hy.gap (by simp; omega) M (by omega)
    refine ⟨sw', sk', who', which', H', ?_, t, y, by rw [l]; simp; omega, ((m1.mono fun b _ hb => .inl hb).then m2 fun b _ hb => .inr hb).then md fun b hb hF => by rcases hF with hF | hF; have := n1' b hF; omega; have := n2' b hF; have := m1.1; omega, fun b hb => ?_, fun b hb => ?_⟩
    rotate_left
    · right; have := m1.1; rcases p1 b hb with hb | hb
      · exact n1' b hb
      · have := m2.1; omega
    · right; have := m1.1; rcases p2 b hb with hb | hb
      · have := n2' b hb; omega
      · have := m2.1; omega
    rw [← e]
    refine iter_next ?_
    unfold tt3l9b tt3l9
    simp (disch := omega) only [bindS, boolKT, boolKF, natK0, natK1, natK2, natK3, natKS, chkKT, bin_add, bin_sub, bin_mul, bin_eql, bin_neq, bin_lss, bin_leq, bin_gtr, bin_geq, un_not, un_neg, conv_int, min_op, max_op, extract_nth, load_one, load_agg, agg_some, field_ptr, len_slice, len_str, len_arr, nil_check, nil_check_f, callTo_func, pick_true, pick_false, cells_agg, cells_int, cells_ptr, cells_slice, cells_bool, cells_str, push_box, getT_zero, getT_succ, List.getElem?_cons_zero, List.getElem?_cons_succ, List.cons_append, List.nil_append, Bool.not_true, Bool.not_false, ne_eq, not_true_eq_false, decide_false, decide_true, not_false_eq_true, Nat.add_zero, Nat.zero_add, new_box, fill_box1, fill_box1s, fill_box1p, fill_box1b, ↓reduceIte, List.all_cons, List.all_nil, Bool.and_true, Bool.and_self, one_int, one_ptr, one_slice, one_bool, one_str, one_nil, one_iface, List.length_cons, List.length_nil, boolK_pos, boolK_neg, boolK_npos, boolK_nneg, wrap_i64, wrap_u64, wrap_u8, wrap_u32, pick_pos, pick_neg, bin_quo_nn, bin_rem_nn, bin_shr1, build_i, e1, e2]
    rw [show (((k + 1 : Nat) : Int) - 1) = (k : Int) by omega]

/-- Places that are nobody's, at the end. -/
theorem l18 {m : Nat} {B pt : Nat} {sl : Value} {ws : List Win} {T : Int} (s1 s2 s3 s4 s5 s6 s15 : Value) (k : Nat) (hk : k ≤ 100) :
    ∀ {H : AHeap} {sw sk : Value} {who which : List Int}, TB B H pt T sl sw sk ws who which → Lay ws who which → who.length + k ≤ 10000 → ∀ M, k < M →
    ∃ sw' sk' who' which' H', iterL (tt3l18b (ttD m)) M [s1, s2, s3, s4, s5, s6, s15, .pointer (some ⟨pt, 0, none⟩), sw, sk, .int .i64 k] H = some (0, [s1, s2, s3, s4, s5, s6, s15, .pointer (some ⟨pt, 0, none⟩), sw', sk', .int .i64 0], H') ∧
      TB B H' pt T sl sw' sk' ws who' which' ∧ Lay ws who' which' ∧ who'.length = who.length + k ∧ Mod (B ≤ ·) H H' := by
  induction k with
  | zero =>
    intro H sw sk who which h hy hl M hM
    obtain ⟨M, rfl⟩ : ∃ j, M = j + 1 := ⟨M - 1, by omega⟩
    refine ⟨sw, sk, who, which, H, iter_exit ?_, h, hy, rfl, Mod.refl⟩
    unfold tt3l18b tt3l18
    simp (disch := omega) only [bindS, boolKT, boolKF, natK0, natK1, natK2, natK3, natKS, chkKT, bin_add, bin_sub, bin_mul, bin_eql, bin_neq, bin_lss, bin_leq, bin_gtr, bin_geq, un_not, un_neg, conv_int, min_op, max_op, extract_nth, load_one, load_agg, agg_some, field_ptr, len_slice, len_str, len_arr, nil_check, nil_check_f, callTo_func, pick_true, pick_false, cells_agg, cells_int, cells_ptr, cells_slice, cells_bool, cells_str, push_box, getT_zero, getT_succ, List.getElem?_cons_zero, List.getElem?_cons_succ, List.cons_append, List.nil_append, Bool.not_true, Bool.not_false, ne_eq, not_true_eq_false, decide_false, decide_true, not_false_eq_true, Nat.add_zero, Nat.zero_add, new_box, fill_box1, fill_box1s, fill_box1p, fill_box1b, ↓reduceIte, List.all_cons, List.all_nil, Bool.and_true, Bool.and_self, one_int, one_ptr, one_slice, one_bool, one_str, one_nil, one_iface, List.length_cons, List.length_nil, boolK_pos, boolK_neg, boolK_npos, boolK_nneg, wrap_i64, wrap_u64, wrap_u8, wrap_u32, pick_pos, pick_neg, bin_quo_nn, bin_rem_nn, bin_shr1]
    try rfl
  | succ k ih =>
    intro H sw sk who which h hy hl M hM
    obtain ⟨M, rfl⟩ : ∃ j, M = j + 1 := ⟨M - 1, by omega⟩
    obtain ⟨sw1, H1, e1, t1, m1, _⟩ := h.addWho (by omega) (-1)
    obtain ⟨sk1, H2, e2, t2, m2, _⟩ := t1.addWhich (by have := hy.len; omega) (-1)
    obtain ⟨sw', sk', who', which', H', e, t, y, l, md⟩ := ih (by omega) t2 hy.gap (by simp; omega) M (by omega)
    refine ⟨sw', sk', who', which', H', ?_, t, y, by rw [l]; simp; omega, ((m1.mono fun b _ hb => (h.bw b hb).1).trans (m2.mono fun b _ hb => (t1.bk b hb).1)).trans md⟩
    rw [← e]
    refine iter_next ?_
    unfold tt3l18b tt3l18
    simp (disch := omega) only [bindS, boolKT, boolKF, natK0, natK1, natK2, natK3, natKS, chkKT, bin_add, bin_sub, bin_mul, bin_eql, bin_neq, bin_lss, bin_leq, bin_gtr, bin_geq, un_not, un_neg, conv_int, min_op, max_op, extract_nth, load_one, load_agg, agg_some, field_ptr, len_slice, len_str, len_arr, nil_check, nil_check_f, callTo_func, pick_true, pick_false, cells_agg, cells_int, cells_ptr, cells_slice, cells_bool, cells_str, push_box, getT_zero, getT_succ, List.getElem?_cons_zero, List.getElem?_cons_succ, List.cons_append, List.nil_append, Bool.not_true, Bool.not_false, ne_eq, not_true_eq_false, decide_false, decide_true, not_false_eq_true, Nat.add_zero, Nat.zero_add, new_box, fill_box1, fill_box1s, fill_box1p, fill_box1b, ↓reduceIte, List.all_cons, List.all_nil, Bool.and_true, Bool.and_self, one_int, one_ptr, one_slice, one_bool, one_str, one_nil, one_iface, List.length_cons, List.length_nil, boolK_pos, boolK_neg, boolK_npos, boolK_nneg, wrap_i64, wrap_u64, wrap_u8, wrap_u32, pick_pos, pick_neg, bin_quo_nn, bin_rem_nn, bin_shr1, build_i, e1, e2]
    rw [show (((k + 1 : Nat) : Int) - 1) = (k : Int) by omega]

/-- A window's places. -/
theorem l14 {m : Nat} (hm : 1 ≤ m) {B pt bx : Nat} {sl : Value} {ws : List Win} {T : Int} {d a b c : Int} (ha : In64 a) (s0 s1 s2 s3 s4 s5 s6 s15 : Value) (x : Int) (k : Nat) (hk : k ≤ 100) :
    ∀ {H : AHeap} {sw sk : Value} {who which : List Int}, TB B H pt T sl sw sk ws who which → Row H bx [.int .i64 d, .int .i64 a, .int .i64 b, .int .i64 c] → bx ≠ pt → (vblk sw ≠ some bx) → (vblk sk ≠ some bx) → who.length + k ≤ 10000 → which.length + k ≤ 10000 → ∀ M, k < M →
    ∃ sw' sk' H', iterL (tt3l14b (ttD m)) M [s0, s1, s2, s3, s4, s5, s6, s15, .pointer (some ⟨pt, 0, none⟩), sw, sk, .int .i64 x, .pointer (some ⟨bx, 0, none⟩), .int .i64 k] H = some (0, [s0, s1, s2, s3, s4, s5, s6, s15, .pointer (some ⟨pt, 0, none⟩), sw', sk', .int .i64 x, .pointer (some ⟨bx, 0, none⟩), .int .i64 0], H') ∧
      TB B H' pt T sl sw' sk' ws (who ++ List.replicate k (sparOf a 4)) (which ++ List.replicate k x) ∧ Mod (fun b => vblk sw = some b ∨ vblk sk = some b) H H' := by
  induction k with
  | zero =>
    intro H sw sk who which h hx n1 n2 n3 hl hl2 M hM
    obtain ⟨M, rfl⟩ : ∃ j, M = j + 1 := ⟨M - 1, by omega⟩
    refine ⟨sw, sk, H, iter_exit ?_, by simpa using h, Mod.refl⟩
    unfold tt3l14b tt3l14
    simp (disch := omega) only [bindS, boolKT, boolKF, natK0, natK1, natK2, natK3, natKS, chkKT, bin_add, bin_sub, bin_mul, bin_eql, bin_neq, bin_lss, bin_leq, bin_gtr, bin_geq, un_not, un_neg, conv_int, min_op, max_op, extract_nth, load_one, load_agg, agg_some, field_ptr, len_slice, len_str, len_arr, nil_check, nil_check_f, callTo_func, pick_true, pick_false, cells_agg, cells_int, cells_ptr, cells_slice, cells_bool, cells_str, push_box, getT_zero, getT_succ, List.getElem?_cons_zero, List.getElem?_cons_succ, List.cons_append, List.nil_append, Bool.not_true, Bool.not_false, ne_eq, not_true_eq_false, decide_false, decide_true, not_false_eq_true, Nat.add_zero, Nat.zero_add, new_box, fill_box1, fill_box1s, fill_box1p, fill_box1b, ↓reduceIte, List.all_cons, List.all_nil, Bool.and_true, Bool.and_self, one_int, one_ptr, one_slice, one_bool, one_str, one_nil, one_iface, List.length_cons, List.length_nil, boolK_pos, boolK_neg, boolK_npos, boolK_nneg, wrap_i64, wrap_u64, wrap_u8, wrap_u32, pick_pos, pick_neg, bin_quo_nn, bin_rem_nn, bin_shr1]
    try rfl
  | succ k ih =>
    intro H sw sk who which h hx n1 n2 n3 hl hl2 M hM
    obtain ⟨M, rfl⟩ : ∃ j, M = j + 1 := ⟨M - 1, by omega⟩
    obtain ⟨sw1, H1, e1, t1, m1, n1'⟩ := h.addWho (by omega) (sparOf a 4)
    have hx1 := hx.mod m1 n2
    obtain ⟨sk1, H2, e2, t2, m2, n2'⟩ := t1.addWhich (by omega) x
    have hx2 := hx1.mod m2 n3
    have hlt := hx.1
    have hlt1 := hx1.1
    obtain ⟨sw', sk', H', e, t, md⟩ := ih (by omega) t2 hx2 n1 (fun hb => by have := n1' _ hb; omega) (fun hb => by have := n2' _ hb; omega) (by simp; omega) (by simp; omega) M (by omega)
    refine ⟨sw', sk', H', ?_, ?_, ((m1.mono fun b _ hb => .inl hb).then m2 fun b _ hb => .inr hb).then md fun b hb hF => by rcases hF with hF | hF; have := n1' b hF; omega; have := n2' b hF; have := m1.1; omega⟩
    · rw [← e]
      refine iter_next ?_
      unfold tt3l14b tt3l14
      simp (disch := omega) only [bindS, boolKT, boolKF, natK0, natK1, natK2, natK3, natKS, chkKT, bin_add, bin_sub, bin_mul, bin_eql, bin_neq, bin_lss, bin_leq, bin_gtr, bin_geq, un_not, un_neg, conv_int, min_op, max_op, extract_nth, load_one, load_agg, agg_some, field_ptr, len_slice, len_str, len_arr, nil_check, nil_check_f, callTo_func, pick_true, pick_false, cells_agg, cells_int, cells_ptr, cells_slice, cells_bool, cells_str, push_box, getT_zero, getT_succ, List.getElem?_cons_zero, List.getElem?_cons_succ, List.cons_append, List.nil_append, Bool.not_true, Bool.not_false, ne_eq, not_true_eq_false, decide_false, decide_true, not_false_eq_true, Nat.add_zero, Nat.zero_add, new_box, fill_box1, fill_box1s, fill_box1p, fill_box1b, ↓reduceIte, List.all_cons, List.all_nil, Bool.and_true, Bool.and_self, one_int, one_ptr, one_slice, one_bool, one_str, one_nil, one_iface, List.length_cons, List.length_nil, boolK_pos, boolK_neg, boolK_npos, boolK_nneg, wrap_i64, wrap_u64, wrap_u8, wrap_u32, pick_pos, pick_neg, bin_quo_nn, bin_rem_nn, bin_shr1, cell_at hx, Go.Abs.s5 hm ha (show (0 : Int) < 4 by omega), build_i, e1, e2]
      rw [show (((k + 1 : Nat) : Int) - 1) = (k : Int) by omega]
    · rw [List.replicate_succ, List.replicate_succ]
      simpa using t
end Go.Abs

namespace Go.Abs
open Go.Proofs Go.Tt

/-- Raw numbers. -/
structure Sp where
  d : Int
  a : Int
  b : Int
  c : Int
def spcells (x : Sp) : List Value := [.int .i64 x.d, .int .i64 x.a, .int .i64 x.b, .int .i64 x.c]
theorem spcells_len (x : Sp) : (spcells x).length = 4 := rfl
def SpIn (x : Sp) : Prop := In64 x.d ∧ In64 x.a ∧ In64 x.b ∧ In64 x.c

theorem same_int (k : IntKind) (n : Int) : sameOpt (.int k n) (some (.int k n)) = true := by simp [sameOpt, sameVal, sameScalar, sameKind_self, eqI_eq]
theorem same_sl {α : Type} {H : AHeap} {v : Value} {n : Nat} {f : α → List Value} {l : List α} (h : Sl H v n f l) : sameOpt v (some v) = true := by
  rcases h with ⟨_, h⟩ | ⟨b, o, c, h, _⟩ <;> subst h <;> simp [sameOpt, sameVal, sameScalar]

/-- One window. -/
theorem r5 {m : Nat} (hm : 1 ≤ m) {B pt : Nat} {H : AHeap} {s0 : Value} {wl : List Sp} (hW : Sl H s0 4 spcells wl) (hB : ∀ b, vblk s0 = some b → b < B) {i : Nat} {w : Sp} (hw : wl[i]? = some w) (hi : i < 10) (hin : SpIn w)
    {sl sw sk : Value} {ws : List Win} {who which : List Int} (h : TB B H pt 0 sl sw sk ws who which) (hy : Lay ws who which) (hwl : ws.length = i) (hl : who.length ≤ 8 * i) (s1 s2 s3 s4 s5 s6 s15 : Value) :
    ∃ sl' sw' sk' ws' who' which' H', tt3l5b (ttD m) [s0, s1, s2, s3, s4, s5, s6, s15, .pointer (some ⟨pt, 0, none⟩), sw, sk, .int .i64 i] H = some (0, [s0, s1, s2, s3, s4, s5, s6, s15, .pointer (some ⟨pt, 0, none⟩), sw', sk', .int .i64 ((i + 1 : Nat) : Int)], H') ∧
      TB B H' pt 0 sl' sw' sk' ws' who' which' ∧ Lay ws' who' which' ∧ ws'.length = i + 1 ∧ who'.length ≤ 8 * (i + 1) ∧ 1 ≤ who'.length ∧ Mod (B ≤ ·) H H' := by
  obtain ⟨i1, i2, i3, i4⟩ := hin
  have hlen := (List.getElem?_eq_some_iff.1 hw).1
  obtain ⟨b0, o0, c0, e1, _, _, _, e2, _⟩ := hW.at spcells_len (i := (i : Int)) (by omega) (x := w) hw .i64
  have hx0 := ext_boxed H [.int .i64 0, .int .i64 0, .int .i64 0, .int .i64 0] (spcells w)
  have hbx := (has_boxed H [.int .i64 0, .int .i64 0, .int .i64 0, .int .i64 0] (spcells w)).row
  have hfb := fill_box H [.int .i64 0, .int .i64 0, .int .i64 0, .int .i64 0] (spcells w) 4 rfl
  generalize hH1 : boxed H [.int .i64 0, .int .i64 0, .int .i64 0, .int .i64 0] (spcells w) = H1 at *
  have hn1 : H1.next = H.next + 1 := by rw [← hH1]; rfl
  have t1 := h.ext hx0
  have d4 := sparOf_nn (x := w.d) (show (0 : Int) < 4 by omega)
  have d4' := sparOf_lt (x := w.d) (show (0 : Int) < 4 by omega)
  have a4 := sparOf_nn (x := w.a) (show (0 : Int) < 4 by omega)
  have a4' := sparOf_lt (x := w.a) (show (0 : Int) < 4 by omega)
  have b5 := sparOf_nn (x := w.b) (show (0 : Int) < 5 by omega)
  have b5' := sparOf_lt (x := w.b) (show (0 : Int) < 5 by omega)
  obtain ⟨kd, hkd⟩ := Int.eq_ofNat_of_zero_le d4
  obtain ⟨kb, hkb⟩ := Int.eq_ofNat_of_zero_le b5
  have hlw := hy.len
  have nbw : vblk sw ≠ some H.next := fun hb => by have := h.osw.lt _ hb; omega
  have nbk : vblk sk ≠ some H.next := fun hb => by have := h.osk.lt _ hb; omega
  have nbp : H.next ≠ pt := by have := h.hpt.1; omega
  obtain ⟨sw2, sk2, who2, which2, H2, l2, t2, y2, n2, m2, p1, p2⟩ := l9 (m := m) s0 s1 s2 s3 s4 s5 s6 s15 (.int .i64 i) (.pointer (some ⟨H.next, 0, none⟩)) kd (by omega) t1 hy (by omega) rounds (lt_rounds (by omega))
  have hbx2 := hbx.mod m2 (by rintro (hb | hb); exact nbw hb; exact nbk hb)
  have r2 := t2.hpt.row
  have nbl : vblk sl ≠ some H.next := fun hb => by have := h.osl.lt _ hb; omega
  obtain ⟨sl3, H3a, H3, e3, st3, t3, m3, p3⟩ := t2.addWin (by omega) ⟨sparOf w.a 4, who2.length, kb + 1⟩
  have hbx3 := hbx2.mod m3 (by rintro (hb | hb); exact nbl hb; exact nbp hb)
  have hl2 := y2.len
  have nbw2 : vblk sw2 ≠ some H.next := fun hb => by rcases p1 _ hb with hb | hb; exact nbw hb; omega
  have nbk2 : vblk sk2 ≠ some H.next := fun hb => by rcases p2 _ hb with hb | hb; exact nbk hb; omega
  obtain ⟨sw4, sk4, H4, l4, t4, m4⟩ := l14 hm i2 s0 s1 s2 s3 s4 s5 s6 s15 i (kb + 1) (by omega) t3 hbx3 nbp nbw2 nbk2 (by omega) (by omega) rounds (lt_rounds (by omega))
  have y4 := y2.win (sparOf w.a 4) (kb + 1) a4 a4' (by omega)
  refine ⟨sl3, sw4, sk4, _, _, _, H4, ?_, t4, by rw [show (i : Int) = (ws.length : Int) by omega]; exact y4, by simp [hwl], by simp; omega, by simp; omega, ?_⟩
  · unfold tt3l5b tt3l5 tt3j48
    have eq5 : ((kb + 1 : Nat) : Int) = 1 + (kb : Int) := by omega
    rw [eq5] at l4
    have hb3 := build_w ⟨sparOf w.a 4, who2.length, kb + 1⟩
    simp only [wcells] at hb3 e3
    rw [eq5] at hb3 e3
    have hc2 := cell_at hbx2
    have hc1 := cell_at hbx
    have hc3 := cell_at hbx3
    simp only [spcells] at hc1 hc2 hc3 e2 hfb
    simp (disch := omega) only [bindS, boolKT, boolKF, natK0, natK1, natK2, natK3, natKS, chkKT, bin_add, bin_sub, bin_mul, bin_eql, bin_neq, bin_lss, bin_leq, bin_gtr, bin_geq, un_not, un_neg, conv_int, min_op, max_op, extract_nth, load_one, load_agg, agg_some, field_ptr, len_slice, len_str, len_arr, nil_check, nil_check_f, callTo_func, pick_true, pick_false, cells_agg, cells_int, cells_ptr, cells_slice, cells_bool, cells_str, push_box, getT_zero, getT_succ, List.getElem?_cons_zero, List.getElem?_cons_succ, List.cons_append, List.nil_append, Bool.not_true, Bool.not_false, ne_eq, not_true_eq_false, decide_false, decide_true, not_false_eq_true, Nat.add_zero, Nat.zero_add, new_box, fill_box1, fill_box1s, fill_box1p, fill_box1b, ↓reduceIte, List.all_cons, List.all_nil, Bool.and_true, Bool.and_self, one_int, one_ptr, one_slice, one_bool, one_str, one_nil, one_iface, List.length_cons, List.length_nil, boolK_pos, boolK_neg, boolK_npos, boolK_nneg, wrap_i64, wrap_u64, wrap_u8, wrap_u32, pick_pos, pick_neg, bin_quo_nn, bin_rem_nn, bin_shr1, hW.len, e1, e2, hfb, hc1, Go.Abs.s5 hm i1 (show (0 : Int) < 4 by omega), hkd]
    rw [l2]
    simp (disch := omega) only [bindS, boolKT, boolKF, natK0, natK1, natK2, natK3, natKS, chkKT, bin_add, bin_sub, bin_mul, bin_eql, bin_neq, bin_lss, bin_leq, bin_gtr, bin_geq, un_not, un_neg, conv_int, min_op, max_op, extract_nth, load_one, load_agg, agg_some, field_ptr, len_slice, len_str, len_arr, nil_check, nil_check_f, callTo_func, pick_true, pick_false, cells_agg, cells_int, cells_ptr, cells_slice, cells_bool, cells_str, push_box, getT_zero, getT_succ, List.getElem?_cons_zero, List.getElem?_cons_succ, List.cons_append, List.nil_append, Bool.not_true, Bool.not_false, ne_eq, not_true_eq_false, decide_false, decide_true, not_false_eq_true, Nat.add_zero, Nat.zero_add, new_box, fill_box1, fill_box1s, fill_box1p, fill_box1b, ↓reduceIte, List.all_cons, List.all_nil, Bool.and_true, Bool.and_self, one_int, one_ptr, one_slice, one_bool, one_str, one_nil, one_iface, List.length_cons, List.length_nil, boolK_pos, boolK_neg, boolK_npos, boolK_nneg, wrap_i64, wrap_u64, wrap_u8, wrap_u32, pick_pos, pick_neg, bin_quo_nn, bin_rem_nn, bin_shr1, cell_at r2, hc2, t2.osw.sl.len, Go.Abs.s5 hm i2 (show (0 : Int) < 4 by omega), same_int, same_sl t2.osl.sl, Go.Abs.s5 hm i3 (show (0 : Int) < 5 by omega), hkb, Int.ofNat_eq_natCast, build33, hb3, e3, st3, hc3]
    rw [l4]
    simp (disch := omega) only [bindS, boolKT, boolKF, natK0, natK1, natK2, natK3, natKS, chkKT, bin_add, bin_sub, bin_mul, bin_eql, bin_neq, bin_lss, bin_leq, bin_gtr, bin_geq, un_not, un_neg, conv_int, min_op, max_op, extract_nth, load_one, load_agg, agg_some, field_ptr, len_slice, len_str, len_arr, nil_check, nil_check_f, callTo_func, pick_true, pick_false, cells_agg, cells_int, cells_ptr, cells_slice, cells_bool, cells_str, push_box, getT_zero, getT_succ, List.getElem?_cons_zero, List.getElem?_cons_succ, List.cons_append, List.nil_append, Bool.not_true, Bool.not_false, ne_eq, not_true_eq_false, decide_false, decide_true, not_false_eq_true, Nat.add_zero, Nat.zero_add, new_box, fill_box1, fill_box1s, fill_box1p, fill_box1b, ↓reduceIte, List.all_cons, List.all_nil, Bool.and_true, Bool.and_self, one_int, one_ptr, one_slice, one_bool, one_str, one_nil, one_iface, List.length_cons, List.length_nil, boolK_pos, boolK_neg, boolK_npos, boolK_nneg, wrap_i64, wrap_u64, wrap_u8, wrap_u32, pick_pos, pick_neg, bin_quo_nn, bin_rem_nn, bin_shr1]
    try rfl
  · have hb1 := h.base
    refine ((hx0.mod.trans (m2.mono fun b _ hb => ?_)).trans (m3.mono fun b _ hb => ?_)).trans (m4.mono fun b _ hb => ?_)
    · rcases hb with hb | hb
      · exact (h.bw b hb).1
      · exact (h.bk b hb).1
    · rcases hb with hb | hb
      · exact (h.bl b hb).1
      · have := h.bp; omega
    · rcases hb with hb | hb
      · exact (t3.bw b hb).1
      · exact (t3.bk b hb).1

/-- All windows. -/
theorem l5 {m : Nat} (hm : 1 ≤ m) {B pt : Nat} {H0 : AHeap} {s0 : Value} {wl : List Sp} (hW0 : Sl H0 s0 4 spcells wl) (hB : ∀ b, vblk s0 = some b → b < B) (hin : ∀ w ∈ wl, SpIn w) (s1 s2 s3 s4 s5 s6 s15 : Value)
    (d : Nat) : ∀ {i : Nat} {H : AHeap} {sl sw sk : Value} {ws : List Win} {who which : List Int}, i + d = min wl.length 10 → Mod (B ≤ ·) H0 H → TB B H pt 0 sl sw sk ws who which → Lay ws who which → ws.length = i → who.length ≤ 8 * i → (0 < i → 1 ≤ who.length) → ∀ M, d < M →
    ∃ sl' sw' sk' ws' who' which' H', iterL (tt3l5b (ttD m)) M [s0, s1, s2, s3, s4, s5, s6, s15, .pointer (some ⟨pt, 0, none⟩), sw, sk, .int .i64 i] H = some (0, [s0, s1, s2, s3, s4, s5, s6, s15, .pointer (some ⟨pt, 0, none⟩), sw', sk', .int .i64 ((i + d : Nat) : Int)], H') ∧
      TB B H' pt 0 sl' sw' sk' ws' who' which' ∧ Lay ws' who' which' ∧ ws'.length ≤ 10 ∧ who'.length ≤ 80 ∧ Mod (B ≤ ·) H H' := by
  induction d with
  | zero =>
    intro i H sl sw sk ws who which hid hmod h hy hwl hl hpos M hM
    obtain ⟨M, rfl⟩ : ∃ j, M = j + 1 := ⟨M - 1, by omega⟩
    refine ⟨sl, sw, sk, ws, who, which, H, iter_exit ?_, h, hy, by omega, by omega, Mod.refl⟩
    have hW := hW0.mod hmod fun b hb hb' => by have := hB b hb; omega
    unfold tt3l5b tt3l5 tt3j48
    by_cases hlt : i < wl.length
    · simp (disch := omega) only [bindS, boolKT, boolKF, natK0, natK1, natK2, natK3, natKS, chkKT, bin_add, bin_sub, bin_mul, bin_eql, bin_neq, bin_lss, bin_leq, bin_gtr, bin_geq, un_not, un_neg, conv_int, min_op, max_op, extract_nth, load_one, load_agg, agg_some, field_ptr, len_slice, len_str, len_arr, nil_check, nil_check_f, callTo_func, pick_true, pick_false, cells_agg, cells_int, cells_ptr, cells_slice, cells_bool, cells_str, push_box, getT_zero, getT_succ, List.getElem?_cons_zero, List.getElem?_cons_succ, List.cons_append, List.nil_append, Bool.not_true, Bool.not_false, ne_eq, not_true_eq_false, decide_false, decide_true, not_false_eq_true, Nat.add_zero, Nat.zero_add, new_box, fill_box1, fill_box1s, fill_box1p, fill_box1b, ↓reduceIte, List.all_cons, List.all_nil, Bool.and_true, Bool.and_self, one_int, one_ptr, one_slice, one_bool, one_str, one_nil, one_iface, List.length_cons, List.length_nil, boolK_pos, boolK_neg, boolK_npos, boolK_nneg, wrap_i64, wrap_u64, wrap_u8, wrap_u32, pick_pos, pick_neg, bin_quo_nn, bin_rem_nn, bin_shr1, hW.len]
    · simp (disch := omega) only [bindS, boolKT, boolKF, natK0, natK1, natK2, natK3, natKS, chkKT, bin_add, bin_sub, bin_mul, bin_eql, bin_neq, bin_lss, bin_leq, bin_gtr, bin_geq, un_not, un_neg, conv_int, min_op, max_op, extract_nth, load_one, load_agg, agg_some, field_ptr, len_slice, len_str, len_arr, nil_check, nil_check_f, callTo_func, pick_true, pick_false, cells_agg, cells_int, cells_ptr, cells_slice, cells_bool, cells_str, push_box, getT_zero, getT_succ, List.getElem?_cons_zero, List.getElem?_cons_succ, List.cons_append, List.nil_append, Bool.not_true, Bool.not_false, ne_eq, not_true_eq_false, decide_false, decide_true, not_false_eq_true, Nat.add_zero, Nat.zero_add, new_box, fill_box1, fill_box1s, fill_box1p, fill_box1b, ↓reduceIte, List.all_cons, List.all_nil, Bool.and_true, Bool.and_self, one_int, one_ptr, one_slice, one_bool, one_str, one_nil, one_iface, List.length_cons, List.length_nil, boolK_pos, boolK_neg, boolK_npos, boolK_nneg, wrap_i64, wrap_u64, wrap_u8, wrap_u32, pick_pos, pick_neg, bin_quo_nn, bin_rem_nn, bin_shr1, hW.len]
  | succ d ih =>
    intro i H sl sw sk ws who which hid hmod h hy hwl hl hpos M hM
    obtain ⟨M, rfl⟩ : ∃ j, M = j + 1 := ⟨M - 1, by omega⟩
    have hW := hW0.mod hmod fun b hb hb' => by have := hB b hb; omega
    have hlt : i < wl.length := by omega
    obtain ⟨sl1, sw1, sk1, ws1, who1, which1, H1, e1, t1, y1, w1, n1, n1', m1⟩ := r5 hm hW hB (List.getElem?_eq_getElem hlt) (by omega) (hin _ (List.getElem_mem hlt)) h hy hwl hl s1 s2 s3 s4 s5 s6 s15
    obtain ⟨sl2, sw2, sk2, ws2, who2, which2, H2, e2, t2, y2, w2, n2, m2⟩ := ih (i := i + 1) (by omega) (hmod.trans m1) t1 y1 w1 n1 (fun _ => n1') M (by omega)
    refine ⟨sl2, sw2, sk2, ws2, who2, which2, H2, ?_, t2, y2, w2, n2, m1.trans m2⟩
    rw [iter_next e1, e2]
    rw [show i + 1 + d = i + (d + 1) by omega]

end Go.Abs
