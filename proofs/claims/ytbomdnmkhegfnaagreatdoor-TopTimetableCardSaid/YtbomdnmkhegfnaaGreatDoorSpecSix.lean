/-
  THE LAW's CHANNEL AND CAP: the state of the law's loop; a send.
-/
import Derived.Test.YtbomdnmkhegfnaaGreatDoorSpecFive
set_option linter.all false
namespace Go.Abs
open Go.Proofs Go.Tt

/-- A slice of bytes that is an element of a row. -/
def scell (x : Nat × Nat) : List Value := [.slice (some ⟨x.1, 0, none⟩) x.2 1]
theorem scell_len (x : Nat × Nat) : (scell x).length = 1 := rfl
theorem scell_one (x : Nat × Nat) : (scell x).all oneCell = true := rfl
abbrev sval (x : Nat × Nat) : Value := .slice (some ⟨x.1, 0, none⟩) x.2 1

/-- The law's state: the channel's own row qc, the row on paper q. -/
structure ML (B : Nat) (H : AHeap) (pt bc bl T : Nat) (tsl : Value) (c : Chan) (qc q : Queue) (rate burst left : Int) (vr vw : Value) (rv : List (Nat × Nat)) : Prop where
  hpt : Row H pt [.int .i64 T, tsl]
  hc : Has H bc (.cells c.cells)
  hq : QOk c qc
  hl : Has H bl (.cells (capL rate burst left))
  cap : CapOk rate burst left
  hr : Own H vr 1 scell rv
  hw : Own H vw 1 ucell (q.map (·.2))
  len : rv.length = q.length
  rows : ∀ (i : Nat) x bs t, rv[i]? = some x → q[i]? = some (bs, t) → Sl H (sval x) 1 bcell bs
  times : ∀ e ∈ q, InU e.2
  bB : B ≤ bc ∧ B ≤ bl ∧ B ≤ pt
  dcl : bc ≠ bl
  dcp : bc ≠ pt
  dlp : bl ≠ pt
  dr : ∀ b, vblk vr = some b → B ≤ b ∧ b ≠ bc ∧ b ≠ bl ∧ b ≠ pt
  dw : ∀ b, vblk vw = some b → B ≤ b ∧ b ≠ bc ∧ b ≠ bl ∧ b ≠ pt ∧ vblk vr ≠ some b
  dx : ∀ x ∈ rv, x.1 ≠ bc ∧ x.1 ≠ bl ∧ vblk vr ≠ some x.1 ∧ vblk vw ≠ some x.1 ∧ x.1 < H.next

section
variable {B : Nat} {H : AHeap} {pt bc bl T : Nat} {tsl : Value} {c : Chan} {qc q : Queue} {rate burst left : Int} {vr vw : Value} {rv : List (Nat × Nat)}

theorem ML.ext {H' : AHeap} (h : ML B H pt bc bl T tsl c qc q rate burst left vr vw rv) (hx : Ext H H') : ML B H' pt bc bl T tsl c qc q rate burst left vr vw rv :=
  { h with hpt := h.hpt.ext hx, hc := h.hc.ext hx, hl := h.hl.ext hx, hr := h.hr.ext hx, hw := h.hw.ext hx, rows := fun i x bs t h1 h2 => (h.rows i x bs t h1 h2).ext hx, dx := fun x hx' => by have d := h.dx x hx'; exact ⟨d.1, d.2.1, d.2.2.1, d.2.2.2.1, Nat.lt_of_lt_of_le d.2.2.2.2 hx.1⟩ }

/-- The channel becomes another one, in its place. -/
theorem ML.chan {H' : AHeap} {c' : Chan} {qc' : Queue} (h : ML B H pt bc bl T tsl c qc q rate burst left vr vw rv) (hm : Mod (· = bc) H H') (hc : Has H' bc (.cells c'.cells)) (hq : QOk c' qc') : ML B H' pt bc bl T tsl c' qc' q rate burst left vr vw rv :=
  { h with hpt := h.hpt.mod hm (fun e => h.dcp e.symm), hc := hc, hq := hq, hl := h.hl.mod hm (fun e => h.dcl e.symm), hr := h.hr.mod hm (fun b hb => (h.dr b hb).2.1), hw := h.hw.mod hm (fun b hb => (h.dw b hb).2.1),
           rows := fun i x bs t h1 h2 => (h.rows i x bs t h1 h2).mod hm (fun b hb => by simp only [vblk, Option.some.injEq] at hb; subst hb; exact (h.dx x (List.mem_of_getElem? h1)).1),
           dx := fun x hx' => by have d := h.dx x hx'; exact ⟨d.1, d.2.1, d.2.2.1, d.2.2.2.1, Nat.lt_of_lt_of_le d.2.2.2.2 hm.1⟩ }

/-- The cap becomes another one, in its place. -/
theorem ML.setCap {H' : AHeap} {left' : Int} (h : ML B H pt bc bl T tsl c qc q rate burst left vr vw rv) (hm : Mod (· = bl) H H') (hl : Has H' bl (.cells (capL rate burst left'))) (hcap : CapOk rate burst left') : ML B H' pt bc bl T tsl c qc q rate burst left' vr vw rv :=
  { h with hpt := h.hpt.mod hm (fun e => h.dlp e.symm), hc := h.hc.mod hm h.dcl, hl := hl, cap := hcap, hr := h.hr.mod hm (fun b hb => (h.dr b hb).2.2.1), hw := h.hw.mod hm (fun b hb => (h.dw b hb).2.2.1),
           rows := fun i x bs t h1 h2 => (h.rows i x bs t h1 h2).mod hm (fun b hb => by simp only [vblk, Option.some.injEq] at hb; subst hb; exact (h.dx x (List.mem_of_getElem? h1)).2.1),
           dx := fun x hx' => by have d := h.dx x hx'; exact ⟨d.1, d.2.1, d.2.2.1, d.2.2.2.1, Nat.lt_of_lt_of_le d.2.2.2.2 hm.1⟩ }
end

/-! ## Ticks pass -/

theorem l80 {m : Nat} (hm : 2 ≤ m) {pt bl T : Nat} {tsl : Value} (hT : 1 ≤ T ∧ T ≤ 256) {rate burst : Int} (hne : bl ≠ pt) (s1 s2 s3 s5 s14 s15 s37 s42 s43 s44 s46 : Value) (k : Nat) :
    ∀ {H : AHeap} {left : Int} {now : Nat}, Row H pt [.int .i64 T, tsl] → Has H bl (.cells (capL rate burst left)) → CapOk rate burst left → now + k ≤ 9223372036854900000 → k ≤ 1000 → ∀ M, k < M →
    ∃ left' H', iterL (tt3l80b (ttD m)) M [s1, s2, s3, .int .i64 rate, s5, s14, s15, .pointer (some ⟨pt, 0, none⟩), .int .i64 burst, s37, .pointer (some ⟨bl, 0, none⟩), .int .i64 left, s42, s43, s44, .int .u64 now, s46, .int .i64 k] H =
      some (0, [s1, s2, s3, .int .i64 rate, s5, s14, s15, .pointer (some ⟨pt, 0, none⟩), .int .i64 burst, s37, .pointer (some ⟨bl, 0, none⟩), .int .i64 left', s42, s43, s44, .int .u64 ((now + k : Nat) : Int), s46, .int .i64 0], H') ∧
      Has H' bl (.cells (capL rate burst left')) ∧ CapOk rate burst left' ∧ Mod (· = bl) H H' := by
  induction k with
  | zero =>
    intro H left now hp hl hc hn hk M hM
    obtain ⟨M, rfl⟩ : ∃ j, M = j + 1 := ⟨M - 1, by omega⟩
    refine ⟨left, H, iter_exit ?_, hl, hc, Mod.refl⟩
    unfold tt3l80b tt3l80
    simp (disch := omega) only [bindS, boolKT, boolKF, natK0, natK1, natK2, natK3, natKS, chkKT, bin_add, bin_sub, bin_mul, bin_eql, bin_neq, bin_lss, bin_leq, bin_gtr, bin_geq, un_not, un_neg, conv_int, min_op, max_op, extract_nth, load_one, load_agg, agg_some, field_ptr, len_slice, len_str, len_arr, nil_check, nil_check_f, callTo_func, pick_true, pick_false, cells_agg, cells_int, cells_ptr, cells_slice, cells_bool, cells_str, push_box, getT_zero, getT_succ, List.getElem?_cons_zero, List.getElem?_cons_succ, List.cons_append, List.nil_append, Bool.not_true, Bool.not_false, ne_eq, not_true_eq_false, decide_false, decide_true, not_false_eq_true, Nat.add_zero, Nat.zero_add, new_box, fill_box1, fill_box1s, fill_box1p, fill_box1b, ↓reduceIte, List.all_cons, List.all_nil, Bool.and_true, Bool.and_self, one_int, one_ptr, one_slice, one_bool, one_str, one_nil, one_iface, List.length_cons, List.length_nil, boolK_pos, boolK_neg, boolK_npos, boolK_nneg, wrap_i64, wrap_u64, wrap_u8, wrap_u32, pick_pos, pick_neg, bin_quo_nn, bin_rem_nn, bin_shr1]
    try rfl
  | succ k ih =>
    intro H left now hp hl hc hn hk M hM
    obtain ⟨M, rfl⟩ : ∃ j, M = j + 1 := ⟨M - 1, by omega⟩
    obtain ⟨h1, h2, h3, h4, h5⟩ := id hc
    have e1 : ((now : Int) + 1) % (T : Int) = (((now + 1) % T : Nat) : Int) := rfl
    by_cases hz : (now + 1) % T = 0
    · obtain ⟨H1, c1, x1⟩ := s17 (m := m) hm (H := H) hc
      have hl1 := hl.ext x1
      have hst := store_all (n := 3) hl1 rfl (vs := capL rate burst (min (left + rate) burst)) rfl rfl
      have hl2 := hl1.setEq (.cells (capL rate burst (min (left + rate) burst)))
      have md : Mod (· = bl) H1 (H1.set bl (some (.cells (capL rate burst (min (left + rate) burst))))) := Mod.set (F := (· = bl)) rfl _
      obtain ⟨left', H', e, g1, g2, g3⟩ := ih ((hp.ext x1).mod md (fun e => hne e.symm)) hl2 (show CapOk rate burst (min (left + rate) burst) from ⟨h1, h2, h3, by omega, by omega⟩) (now := now + 1) (by omega) (by omega) M (by omega)
      refine ⟨left', H', ?_, g1, g2, (x1.mod.trans md).trans g3⟩
      rw [show now + (k + 1) = now + 1 + k by omega, ← e]
      refine iter_next ?_
      rw [hz] at e1
      have hmin : min burst (left + rate) = min (left + rate) burst := by omega
      unfold tt3l80b tt3l80
      simp (disch := omega) only [bindS, boolKT, boolKF, natK0, natK1, natK2, natK3, natKS, chkKT, bin_add, bin_sub, bin_mul, bin_eql, bin_neq, bin_lss, bin_leq, bin_gtr, bin_geq, un_not, un_neg, conv_int, min_op, max_op, extract_nth, load_one, load_agg, agg_some, field_ptr, len_slice, len_str, len_arr, nil_check, nil_check_f, callTo_func, pick_true, pick_false, cells_agg, cells_int, cells_ptr, cells_slice, cells_bool, cells_str, push_box, getT_zero, getT_succ, List.getElem?_cons_zero, List.getElem?_cons_succ, List.cons_append, List.nil_append, Bool.not_true, Bool.not_false, ne_eq, not_true_eq_false, decide_false, decide_true, not_false_eq_true, Nat.add_zero, Nat.zero_add, new_box, fill_box1, fill_box1s, fill_box1p, fill_box1b, ↓reduceIte, List.all_cons, List.all_nil, Bool.and_true, Bool.and_self, one_int, one_ptr, one_slice, one_bool, one_str, one_nil, one_iface, List.length_cons, List.length_nil, boolK_pos, boolK_neg, boolK_npos, boolK_nneg, wrap_i64, wrap_u64, wrap_u8, wrap_u32, pick_pos, pick_neg, bin_quo_nn, bin_rem_nn, bin_shr1, cell_at hp, e1, hmin, cells_all (n := 3) hl.row rfl, c1, hst]
      rw [show (((k + 1 : Nat) : Int) - 1) = (k : Int) by omega]
      rfl
    · obtain ⟨left', H', e, g1, g2, g3⟩ := ih hp hl hc (now := now + 1) (by omega) (by omega) M (by omega)
      refine ⟨left', H', ?_, g1, g2, g3⟩
      rw [show now + (k + 1) = now + 1 + k by omega, ← e]
      refine iter_next ?_
      generalize (now + 1) % T = r at *
      unfold tt3l80b tt3l80
      simp (disch := omega) only [bindS, boolKT, boolKF, natK0, natK1, natK2, natK3, natKS, chkKT, bin_add, bin_sub, bin_mul, bin_eql, bin_neq, bin_lss, bin_leq, bin_gtr, bin_geq, un_not, un_neg, conv_int, min_op, max_op, extract_nth, load_one, load_agg, agg_some, field_ptr, len_slice, len_str, len_arr, nil_check, nil_check_f, callTo_func, pick_true, pick_false, cells_agg, cells_int, cells_ptr, cells_slice, cells_bool, cells_str, push_box, getT_zero, getT_succ, List.getElem?_cons_zero, List.getElem?_cons_succ, List.cons_append, List.nil_append, Bool.not_true, Bool.not_false, ne_eq, not_true_eq_false, decide_false, decide_true, not_false_eq_true, Nat.add_zero, Nat.zero_add, new_box, fill_box1, fill_box1s, fill_box1p, fill_box1b, ↓reduceIte, List.all_cons, List.all_nil, Bool.and_true, Bool.and_self, one_int, one_ptr, one_slice, one_bool, one_str, one_nil, one_iface, List.length_cons, List.length_nil, boolK_pos, boolK_neg, boolK_npos, boolK_nneg, wrap_i64, wrap_u64, wrap_u8, wrap_u32, pick_pos, pick_neg, bin_quo_nn, bin_rem_nn, bin_shr1, cell_at hp, e1]
      rw [show (((k + 1 : Nat) : Int) - 1) = (k : Int) by omega]
      rfl

/-! ## Bytes are made -/

theorem zeros_rep (z : Value) : ∀ n, zerosA [z] n = List.replicate n z
  | 0 => rfl
  | n + 1 => by
    show app [z] (zerosA [z] n) = _
    rw [zeros_rep z n, app_eq, List.replicate_succ]; rfl
theorem make_bytes (n : Nat) (hn : n ≤ 1000) : makeSliceA (some (1, 1, [.int .u8 0])) (.int .i64 (n : Int)) (.int .i64 (n : Int)) = some (.cells (bcells (List.replicate n 0)), fun i => .slice (some ⟨i, 0, none⟩) n 1) := by
  show (match Nat.ble n n, Nat.ble (1 * n) 140737488355328, Nat.ble n 4611686018427387904 with | true, true, true => newRowA n 1 (some (zerosA [.int .u8 0] n)) | _, _, _ => none) = _
  simp only [Nat_ble_eq, Nat.le_refl, decide_true, show 1 * n ≤ 140737488355328 by omega, show n ≤ 4611686018427387904 by omega, newRowA, zeros_rep, bcells, List.map_replicate]

theorem l97 {m : Nat} {bb n : Nat} {i : Int} (hi : 0 ≤ i ∧ i ≤ 100) (hn : n ≤ 1000) (s1 s2 s3 s4 s5 s14 s15 s16 s36 s37 s39 s41 s42 s43 s44 s45 s47 : Value) (d : Nat) :
    ∀ {k : Nat} {H : AHeap} {bs : List Int}, k + d = n → bs.length = n → Has H bb (.cells (bcells bs)) → ∀ M, d < M →
    ∃ bs' H', iterL (tt3l97b (ttD m)) M [s1, s2, s3, s4, s5, s14, s15, s16, s36, s37, s39, s41, s42, s43, s44, s45, .int .i64 i, s47, .slice (some ⟨bb, 0, none⟩) n 1, .int .i64 n, .int .i64 (k : Int)] H =
      some (0, [s1, s2, s3, s4, s5, s14, s15, s16, s36, s37, s39, s41, s42, s43, s44, s45, .int .i64 i, s47, .slice (some ⟨bb, 0, none⟩) n 1, .int .i64 n, .int .i64 n], H') ∧ bs'.length = n ∧ Has H' bb (.cells (bcells bs')) ∧ Mod (· = bb) H H' := by
  induction d with
  | zero =>
    intro k H bs hk hb h M hM
    obtain ⟨M, rfl⟩ : ∃ j, M = j + 1 := ⟨M - 1, by omega⟩
    obtain rfl : k = n := by omega
    refine ⟨bs, H, iter_exit ?_, hb, h, Mod.refl⟩
    unfold tt3l97b tt3l97
    simp (disch := omega) only [bindS, boolKT, boolKF, natK0, natK1, natK2, natK3, natKS, chkKT, bin_add, bin_sub, bin_mul, bin_eql, bin_neq, bin_lss, bin_leq, bin_gtr, bin_geq, un_not, un_neg, conv_int, min_op, max_op, extract_nth, load_one, load_agg, agg_some, field_ptr, len_slice, len_str, len_arr, nil_check, nil_check_f, callTo_func, pick_true, pick_false, cells_agg, cells_int, cells_ptr, cells_slice, cells_bool, cells_str, push_box, getT_zero, getT_succ, List.getElem?_cons_zero, List.getElem?_cons_succ, List.cons_append, List.nil_append, Bool.not_true, Bool.not_false, ne_eq, not_true_eq_false, decide_false, decide_true, not_false_eq_true, Nat.add_zero, Nat.zero_add, new_box, fill_box1, fill_box1s, fill_box1p, fill_box1b, ↓reduceIte, List.all_cons, List.all_nil, Bool.and_true, Bool.and_self, one_int, one_ptr, one_slice, one_bool, one_str, one_nil, one_iface, List.length_cons, List.length_nil, boolK_pos, boolK_neg, boolK_npos, boolK_nneg, wrap_i64, wrap_u64, wrap_u8, wrap_u32, pick_pos, pick_neg, bin_quo_nn, bin_rem_nn, bin_shr1]
  | succ d ih =>
    intro k H bs hk hb h M hM
    obtain ⟨M, rfl⟩ : ∃ j, M = j + 1 := ⟨M - 1, by omega⟩
    have hst := store_one h (o := k) (by rw [bcells_len]; omega) (v := .int .u8 (IntKind.u8.wrap (i + k))) rfl rfl
    have hset : (bcells bs).set k (.int .u8 (IntKind.u8.wrap (i + k))) = bcells (bs.set k (IntKind.u8.wrap (i + k))) := by simp [bcells, List.map_set]
    rw [hset] at hst
    have h1 := h.setEq (.cells (bcells (bs.set k (IntKind.u8.wrap (i + k)))))
    obtain ⟨bs', H', e, g1, g2, g3⟩ := ih (k := k + 1) (by omega) (by simpa using hb) h1 M (by omega)
    refine ⟨bs', H', ?_, g1, g2, (Mod.set (F := (· = bb)) rfl _).trans g3⟩
    rw [← e]
    refine iter_next ?_
    unfold tt3l97b tt3l97
    have hix : indexPtr (some (none, 1)) (.slice (some ⟨bb, 0, none⟩) n 1) (.int .i64 (k : Int)) = some (.pointer (some ⟨bb, k, none⟩)) := by
      rw [index_slice (by omega) (by omega)]; simp
    simp only [Option.bind_some, getT_zero, getT_succ, bin_lss, boolK_pos (show (k : Int) < n by omega), bin_add, conv_int, wrap_i64 (show -9223372036854775808 ≤ i + k by omega) (by omega), hix, hst, wrap_i64 (show -9223372036854775808 ≤ (k : Int) + 1 by omega) (by omega)]
    try rfl

end Go.Abs

namespace Go.Abs
open Go.Proofs Go.Tt

abbrev MV (kind most size rate : Int) (s5 s14 s15 : Value) (pt : Nat) (burst : Int) (bc bl : Nat) (left lost : Int) (vr vw : Value) (now i : Int) : List Value :=
  [.int .i64 kind, .int .i64 most, .int .i64 size, .int .i64 rate, s5, s14, s15, .pointer (some ⟨pt, 0, none⟩), .int .i64 burst, .pointer (some ⟨bc, 0, none⟩), .pointer (some ⟨bl, 0, none⟩), .int .i64 left, .int .u64 lost, vr, vw, .int .u64 now, .int .i64 i]

/-- A channel's bounds. -/
structure ChK (c : Chan) (kind most size lost : Int) (q : Queue) : Prop where
  ek : c.kind = kind
  em : c.most = most
  es : c.size = size
  el : c.lost = lost
  k0 : 0 ≤ kind ∧ kind ≤ 2
  m0 : 1 ≤ most ∧ most ≤ 5
  s0 : 0 ≤ size ∧ size ≤ 64
  km : kind = 0 → most = 1
  qm : (q.length : Int) ≤ most
  l0 : 0 ≤ lost

section
variable {B : Nat} {H : AHeap} {pt bc bl T : Nat} {tsl : Value} {c : Chan} {qc q : Queue} {rate burst left : Int} {vr vw : Value} {rv : List (Nat × Nat)}

theorem ML.tail {m : Nat} (hm : 1 ≤ m) (h : ML B H pt bc bl T tsl c q q rate burst left vr vw rv) :
    H.cell ⟨bl, 2, none⟩ = some (.int .i64 left) ∧ ttD m 22 [.pointer (some ⟨bc, 0, none⟩)] H = some (.int .i64 rv.length, H) ∧ ttD m 23 [.pointer (some ⟨bc, 0, none⟩)] H = some (.int .u64 c.lost, H) ∧
      H.cells ⟨bl, 0, none⟩ 3 = some (capL rate burst left) ∧ ttD m 24 [.agg (capL rate burst left).toArray] H = some (.bool true, box H (capL rate burst left)) ∧ lenA 2 none vr = some (.int .i64 rv.length) := by
  refine ⟨cell_at h.hl.row 2, ?_, s23 hm h.hc h.hq.1, cells_all (n := 3) h.hl.row rfl, s24 hm h.cap, h.hr.sl.len⟩
  rw [s22 hm h.hc h.hq.1, h.hq.2.2.1, h.len]

theorem sendP_bd {kind most size : Int} {q : Queue} (bs : List Int) (t lost : Int) (hm : 1 ≤ most) (hk : kind = 0 → most = 1) (hq : (q.length : Int) ≤ most) :
    ((sendP kind most size q lost bs t).2.1.length : Int) ≤ most ∧ lost ≤ (sendP kind most size q lost bs t).2.2 ∧ (sendP kind most size q lost bs t).2.2 ≤ lost + 1 := by
  unfold sendP
  split
  · simp only; omega
  · split
    · simp; omega
    · split
      · split <;> simp only <;> omega
      · simp; omega

/-- A message is handed over. -/
theorem j252 {m : Nat} (hm : 2 ≤ m) (h : ML B H pt bc bl T tsl c qc q rate burst left vr vw rv) {kind most size lost lost' code : Int} (hk : ChK c kind most size lost qc) (hll : lost ≤ 1000) {bs : List Int} {at_ : Int} (hs : sendP kind most size qc lost bs at_ = (code, q, lost'))
    {v51 : Value} (hv : Sl H v51 1 bcell bs) (hb : bs.length ≤ 1000) (s5 s14 s15 : Value) (now : Int) {i : Int} (hi : 0 ≤ i ∧ i ≤ 100) :
    ∃ H' c', tt3j252 (ttD m) (.int .i64 kind) (.int .i64 most) (.int .i64 size) (.int .i64 rate) s5 s14 s15 (.pointer (some ⟨pt, 0, none⟩)) (.int .i64 burst) (.pointer (some ⟨bc, 0, none⟩)) (.pointer (some ⟨bl, 0, none⟩)) (.int .i64 left) (.int .u64 lost') vr vw (.int .u64 now) (.int .i64 i) v51 (.int .u64 at_) (.int .i64 code) H =
      some (0, MV kind most size rate s5 s14 s15 pt burst bc bl left lost' vr vw now (i + 1), H') ∧ ML B H' pt bc bl T tsl c' q q rate burst left vr vw rv ∧ ChK c' kind most size lost' q ∧ lost' ≤ lost + 1 ∧ Mod (B ≤ ·) H H' := by
  obtain ⟨k1, k2, k3, k4, k5, k6, k7, k8, k9, k10⟩ := id hk
  have x0 := ext_box H []
  have hown : Own (box H []) (.slice (some ⟨H.next, 0, none⟩) ([] : List Int).length 1) 1 bcell [] := Own.mk bcell_len (has_box H [])
  obtain ⟨v', H1, e1, o1, m1, p1, _⟩ := append_own (w := 1) (by omega) bcell_len bcell_one hown (hv.ext x0) (by simp; omega) (by simp; omega)
  rw [List.nil_append] at o1
  have mm : Ext H H1 := ⟨Nat.le_trans x0.1 m1.1, fun b hb _ => by
    rw [m1.2 b (Nat.lt_of_lt_of_le hb x0.1) (fun hh => by simp only [vblk, Option.some.injEq] at hh; omega), x0.2 b hb (fun h => h)]⟩
  have h1 := h.ext mm
  have hvb : ∀ x, vblk v' = some x → x ≠ bc := fun x hx => by
    have := h.hc.1
    rcases p1 x hx with hh | hh
    · have := x0.1; omega
    · simp only [vblk, Option.some.injEq] at hh; omega
  obtain ⟨H2, c2, e2, g1, g2, g3, g4, g5, g6, g7⟩ := s19 (m := m) (by omega) h1.hc h1.hq (by omega) (by omega) (by omega) (by omega) (by rw [k1, k2]; exact k8) (by omega) (by omega) o1.sl hvb at_
  rw [k1, k2, k3, k4, hs] at e2 g2 g7
  simp only at e2 g2 g7
  have h2 := h1.chan g3 g1 g2
  have hm1 := h2.tail (m := m) (by omega)
  obtain ⟨f1, f2, f3, f4, f5, f6⟩ := hm1
  rw [g7] at f3
  have hql := sendP_bd (size := size) bs at_ lost k6.1 k8 k9
  rw [hs] at hql
  simp only at hql
  refine ⟨box H2 (capL rate burst left), c2, ?_, h2.ext (ext_box _ _), ⟨by rw [g4, k1], by rw [g5, k2], by rw [g6, k3], g7, k5, k6, k7, k8, hql.1, by omega⟩, by omega, ?_⟩
  · unfold tt3j252
    have hbn : buildSliceA (some (1, 1, [.int .u8 0])) 0 [] = some (.cells [], fun i => .slice (some ⟨i, 0, none⟩) 0 1) := build_none _ _ _
    simp only [List.length_nil] at e1
    simp (disch := omega) only [bindS, boolKT, boolKF, natK0, natK1, natK2, natK3, natKS, chkKT, bin_add, bin_sub, bin_mul, bin_eql, bin_neq, bin_lss, bin_leq, bin_gtr, bin_geq, un_not, un_neg, conv_int, min_op, max_op, extract_nth, load_one, load_agg, agg_some, field_ptr, len_slice, len_str, len_arr, nil_check, nil_check_f, callTo_func, pick_true, pick_false, cells_agg, cells_int, cells_ptr, cells_slice, cells_bool, cells_str, push_box, getT_zero, getT_succ, List.getElem?_cons_zero, List.getElem?_cons_succ, List.cons_append, List.nil_append, Bool.not_true, Bool.not_false, ne_eq, not_true_eq_false, decide_false, decide_true, not_false_eq_true, Nat.add_zero, Nat.zero_add, new_box, fill_box1, fill_box1s, fill_box1p, fill_box1b, ↓reduceIte, List.all_cons, List.all_nil, Bool.and_true, Bool.and_self, one_int, one_ptr, one_slice, one_bool, one_str, one_nil, one_iface, List.length_cons, List.length_nil, boolK_pos, boolK_neg, boolK_npos, boolK_nneg, wrap_i64, wrap_u64, wrap_u8, wrap_u32, pick_pos, pick_neg, bin_quo_nn, bin_rem_nn, bin_shr1, hbn, e1, e2, f1, f2, f3, f4, f5, f6]
  · exact (mm.mod.trans (g3.mono fun b _ hb => by have := h.bB.1; omega)).trans (ext_box _ _).mod

theorem build_s (x : Nat × Nat) : buildSliceA (some (1, 24, [.slice none 0 0])) 1 [(0, .slice (some ⟨x.1, 0, none⟩) x.2 1)] = some (.cells (scell x), fun i => .slice (some ⟨i, 0, none⟩) 1 1) := build_one 1 24 _ _ (by omega) (by omega) rfl rfl rfl
theorem build_u (x : Int) : buildSliceA (some (1, 8, [.int .u64 0])) 1 [(0, .int .u64 x)] = some (.cells (ucell x), fun i => .slice (some ⟨i, 0, none⟩) 1 1) := build_one 1 8 _ _ (by omega) (by omega) rfl rfl rfl

theorem sl_bytes {H : AHeap} {bb : Nat} {bs : List Int} (h : Has H bb (.cells (bcells bs))) : Sl H (.slice (some ⟨bb, 0, none⟩) bs.length 1) 1 bcell bs := Sl.mk bcell_len (by rw [bcells_flat]; exact h.row)

/-- One more in the row. -/
theorem ML.push (h : ML B H pt bc bl T tsl c qc q rate burst left vr vw rv) {bb : Nat} {bs : List Int} (hb : Has H bb (.cells (bcells bs))) (nb : bb ≠ bc ∧ bb ≠ bl ∧ vblk vr ≠ some bb ∧ vblk vw ≠ some bb) {at_ : Int} (ha : InU at_) (hn : q.length ≤ 100) :
    ∃ vr' H1 vw' H2, appendA (some (1, 24)) vr (.slice (some ⟨H.next, 0, none⟩) 1 1) (box H (scell (bb, bs.length))) = some (vr', H1) ∧ appendA (some (1, 8)) vw (.slice (some ⟨H1.next, 0, none⟩) 1 1) (box H1 (ucell at_)) = some (vw', H2) ∧
      ML B H2 pt bc bl T tsl c qc (q ++ [(bs, at_)]) rate burst left vr' vw' (rv ++ [(bb, bs.length)]) ∧ Mod (B ≤ ·) H H2 := by
  have hlen := h.len
  obtain ⟨vr', H1, e1, o1, m1, n1⟩ := append_one (w := 24) (by omega) scell_len scell_one h.hr (bb, bs.length) (by omega) (by omega)
  have hw1 := h.hw.mod m1 (fun b hb hb' => (h.dw b hb).2.2.2.2 hb')
  obtain ⟨vw', H2, e2, o2, m2, n2⟩ := append_one (w := 8) (by omega) ucell_len ucell_one hw1 at_ (by simp; omega) (by simp; omega)
  have nvr : ∀ b, vblk vr' = some b → vblk vw ≠ some b := fun b hb hb' => by have := n1 b hb; have := h.hw.lt b hb'; omega
  have hH1 := m1.1
  have hB := h.bB.1
  have hcn := h.hc.1
  have hln := h.hl.1
  have hpn := h.hpt.1
  have two : ∀ {b : Nat} {X : Blk}, Has H b X → (vblk vr ≠ some b) → (vblk vw ≠ some b) → Has H2 b X := fun hx a b => (hx.mod m1 a).mod m2 b
  have nc : vblk vr ≠ some bc ∧ vblk vw ≠ some bc := ⟨fun hh => (h.dr _ hh).2.1 rfl, fun hh => (h.dw _ hh).2.1 rfl⟩
  have nl : vblk vr ≠ some bl ∧ vblk vw ≠ some bl := ⟨fun hh => (h.dr _ hh).2.2.1 rfl, fun hh => (h.dw _ hh).2.2.1 rfl⟩
  have np : vblk vr ≠ some pt ∧ vblk vw ≠ some pt := ⟨fun hh => (h.dr _ hh).2.2.2 rfl, fun hh => (h.dw _ hh).2.2.2.1 rfl⟩
  refine ⟨vr', H1, vw', H2, e1, e2, ?_, (m1.mono fun b _ hb => (h.dr b hb).1).trans (m2.mono fun b _ hb => (h.dw b hb).1)⟩
  exact { h with
    hpt := (h.hpt.mod m1 np.1).mod m2 np.2
    hc := two h.hc nc.1 nc.2
    hl := two h.hl nl.1 nl.2
    hr := o1.mod m2 nvr
    hw := by rw [List.map_append]; exact o2
    len := by simp [hlen]
    rows := fun i x bs' t' hx hq' => by
      rcases Nat.lt_or_ge i rv.length with hlt | hge
      · rw [List.getElem?_append_left hlt] at hx
        rw [List.getElem?_append_left (by omega)] at hq'
        have hm := List.mem_of_getElem? hx
        have d := h.dx x hm
        exact ((h.rows i x bs' t' hx hq').mod m1 (fun b hb => by simp only [vblk, Option.some.injEq] at hb; subst hb; exact d.2.2.1)).mod m2 (fun b hb => by simp only [vblk, Option.some.injEq] at hb; subst hb; exact d.2.2.2.1)
      · have hlt := (List.getElem?_eq_some_iff.1 hx).1
        simp at hlt
        obtain rfl : i = rv.length := by omega
        rw [hlen] at hq'
        simp at hx hq'
        obtain ⟨rfl, rfl⟩ := hq'
        subst hx
        exact sl_bytes (two hb nb.2.2.1 nb.2.2.2)
    times := fun e he => by
      rcases List.mem_append.1 he with he | he
      · exact h.times e he
      · simp at he; subst he; exact ha
    dr := fun b hb => by have := n1 b hb; exact ⟨by omega, by omega, by omega, by omega⟩
    dw := fun b hb => by have h2 := n2 b hb; exact ⟨by omega, by omega, by omega, by omega, fun hb' => by have := o1.lt b hb'; omega⟩
    dx := fun x hx => by
      have key : x.1 ≠ bc ∧ x.1 ≠ bl ∧ x.1 < H.next := by
        rcases List.mem_append.1 hx with hx | hx
        · have d := h.dx x hx; exact ⟨d.1, d.2.1, d.2.2.2.2⟩
        · simp at hx; subst hx; exact ⟨nb.1, nb.2.1, hb.1⟩
      exact ⟨key.1, key.2.1, fun hh => by have := n1 _ hh; omega, fun hh => by have := n2 _ hh; omega, by have := m2.1; omega⟩ }

/-- The row is this one alone. -/
theorem ML.single (h : ML B H pt bc bl T tsl c qc q rate burst left vr vw rv) {bb : Nat} {bs : List Int} (hb : Has H bb (.cells (bcells bs))) (nb : bb ≠ bc ∧ bb ≠ bl) {at_ : Int} (ha : InU at_) :
    ML B (box (box H (scell (bb, bs.length))) (ucell at_)) pt bc bl T tsl c qc [(bs, at_)] rate burst left (.slice (some ⟨H.next, 0, none⟩) 1 1) (.slice (some ⟨H.next + 1, 0, none⟩) 1 1) [(bb, bs.length)] := by
  have hx : Ext H (box (box H (scell (bb, bs.length))) (ucell at_)) := (ext_box _ _).trans (ext_box _ _)
  have hB := h.bB.1
  have hcn := h.hc.1
  have hln := h.hl.1
  have hpn := h.hpt.1
  have hbn := hb.1
  have h' := h.ext hx
  exact { h' with
    hr := Own.mk (l := [(bb, bs.length)]) scell_len ((has_box H _).ext (ext_box _ _))
    hw := Own.mk (l := [at_]) ucell_len (has_box (box H (scell (bb, bs.length))) _)
    len := rfl
    rows := fun i x bs' t' hx' hq' => by
      have hlt := (List.getElem?_eq_some_iff.1 hx').1
      simp at hlt; subst hlt
      simp at hx' hq'
      obtain ⟨rfl, rfl⟩ := hq'
      subst hx'
      exact sl_bytes (hb.ext hx)
    times := fun e he => by simp at he; subst he; exact ha
    dr := fun b hb => by simp only [vblk, Option.some.injEq] at hb; subst hb; exact ⟨by omega, by omega, by omega, by omega⟩
    dw := fun b hb => by simp only [vblk, Option.some.injEq] at hb; subst hb; exact ⟨by omega, by omega, by omega, by omega, by simp [vblk]⟩
    dx := fun x hx' => by
      simp at hx'; subst hx'
      exact ⟨nb.1, nb.2, by simp only [vblk, ne_eq, Option.some.injEq]; omega, by simp only [vblk, ne_eq, Option.some.injEq]; omega, by simp only [next_box]; omega⟩ }
end
end Go.Abs
