/-
  A TABLE IS ITS PLACES, A CAP ITS COUNT, A CHANNEL ITS ROW: for every input the law TopTimetable returns true, and each argument reads behind the call as it read before; the listed variables are tied to the program's text.
-/
import Derived.Test.YtbomdnmkhegfnaaGreatDoorRow
set_option linter.all false
namespace Go.Proofs.YtbomdnmkhegfnaaGreatDoor
open Go Go.ChangeShapes Go.WideShapes Go.RowKit Go.ChangeAt Go.WideElems

theorem laid_out : laidOutB Tryz.prog = true := by kernel_rfl
theorem lt_of22 : 22 < Tryz.prog.types.size := by rw [tsize]; omega
theorem read22 : Tryz.prog.readableRec 22 = true := by kernel_rfl

set_option maxRecDepth 100000 in
theorem lifted (os : Os) (started : os.Started) (H : Type) (enc : TypeId × Value → H) :
    ReturnsInHanded {} Tryz.checked os 3 .any (fun w args => (Rows.topTimetableSpec.pre enc Tryz.prog Tryz.f3 [] false w args ∧ laidMetH Tryz.prog laid6 w) ∧ sizedMet enc Tryz.prog Tryz.f3 (OpenSpec.ofChange Rows.topTimetableSpec) false w args)
      (Rows.topTimetableSpec.post enc Tryz.prog Tryz.f3 false true false false) := by
  refine returnsInHanded_of_change_and (C := Tryz.checked) (X := fun w _ => laidMetH Tryz.prog laid6 w) (fun _ _ _ hh h => h.of_heap hh) own started (by kernel_rfl) Tryz.func3
    (ChangeSpec.witness_shaped (enc := enc) (C := Tryz.checked) (os := os) (X := fun w _ => laidMetH Tryz.prog laid6 w) false (World.doorLaid Tryz.prog 41 os) #[.slice none 0 0, .int .i64 0, .int .i64 0, .int .i64 0, .int .i64 0, .slice none 0 0, .int .u64 0] 8 rfl (World.shaped_of_RefB (by kernel_rfl) (by kernel_rfl)) (by kernel_rfl) (by kernel_rfl) (by kernel_rfl) (door_met os _)) ?_
  intro W base args ds gs before hval0 hW _ _ hL _
  have hval : ∀ (j : Nat) t v, Tryz.f3.params[j]? = some t → args[j]? = some v → Value.okWide Tryz.prog W .any base t v := hval0
  have hW' := hW
  obtain ⟨p, q, hA0, hV, rfl, hfz, hnd⟩ := hW
  rcases args with ⟨la⟩
  have hA : DataW.TrodAll enc Tryz.prog W 0 (fun _ => true) true Tryz.f3.params.toList la ds p := hA0
  rw [Tryz.params3] at hA hval
  obtain ⟨v0, l0, d0, k0, p0, q0, rfl, rfl, h0, hA1, rfl⟩ := trodAll_inv hA
  obtain ⟨v1, l1, d1, k1, p1, q1, rfl, rfl, h1, hA2, rfl⟩ := trodAll_inv hA1
  obtain ⟨v2, l2, d2, k2, p2, q2, rfl, rfl, h2, hA3, rfl⟩ := trodAll_inv hA2
  obtain ⟨v3, l3, d3, k3, p3, q3, rfl, rfl, h3, hA4, rfl⟩ := trodAll_inv hA3
  obtain ⟨v4, l4, d4, k4, p4, q4, rfl, rfl, h4, hA5, rfl⟩ := trodAll_inv hA4
  obtain ⟨v5, l5, d5, k5, p5, q5, rfl, rfl, h5, hA6, rfl⟩ := trodAll_inv hA5
  obtain ⟨v6, l6, d6, k6, p6, q6, rfl, rfl, h6, hA7, rfl⟩ := trodAll_inv hA6
  obtain ⟨rfl, rfl, rfl⟩ := trodAll_end hA7
  obtain ⟨rfl, rfl⟩ := trodVars_none hV
  obtain ⟨n1, rfl, rfl, rfl, w1⟩ := open_int Tryz.underlying3 (hval 1 3 _ rfl rfl) h1
  obtain ⟨n2, rfl, rfl, rfl, w2⟩ := open_int Tryz.underlying3 (hval 2 3 _ rfl rfl) h2
  obtain ⟨n3, rfl, rfl, rfl, w3⟩ := open_int Tryz.underlying3 (hval 3 3 _ rfl rfl) h3
  obtain ⟨n4, rfl, rfl, rfl, w4⟩ := open_int Tryz.underlying3 (hval 4 3 _ rfl rfl) h4
  obtain ⟨n6, rfl, rfl, rfl, w6⟩ := open_int Tryz.underlying23 (hval 6 23 _ rfl rfl) h6
  obtain ⟨al0, s0⟩ := Go.Abs.spar_arg (okWide_slice Tryz.underlying22 (hval 0 22 _ rfl rfl)) h0
  obtain ⟨al5, s5⟩ := Go.Abs.spar_arg (okWide_slice Tryz.underlying22 (hval 5 22 _ rfl rfl)) h5
  have hL' : laidMet Tryz.prog laid5 W ∧ handlesMet Tryz.prog [("errors.errorType", Rows.laid_errors_errorType)] W := hL
  obtain ⟨cs0, e0, f0, hb0, hcrc⟩ := crc_of_laid hL'.1
  obtain ⟨cs1, e1, f1, hb1, herr⟩ := err_of_laid hL'.2
  have hlt : ∀ x ∈ p0 ++ ([] ++ ([] ++ ([] ++ ([] ++ (p5 ++ ([] ++ [])))))), x.block < W.heap.size := fun x hx => hW'.lt x (by simpa using hx)
  refine (Go.Abs.law_calls s0 s5 (Go.Abs.in64_of_wf w1) (Go.Abs.in64_of_wf w2) (Go.Abs.in64_of_wf w3) (Go.Abs.in64_of_wf w4) (Go.Abs.inU_of_wf w6) hb0 hcrc hb1 herr).mono fun e W' ⟨he, hb⟩ => ?_
  subst he
  have hfn : Rows.topTimetableSpec.fn H ([d0, .lit (.int .i64 n1), .lit (.int .i64 n2), .lit (.int .i64 n3), .lit (.int .i64 n4), d5, .lit (.int .u64 n6)] ++ []) = { results := [.lit (.bool true)], args := [d0, .lit (.int .i64 n1), .lit (.int .i64 n2), .lit (.int .i64 n3), .lit (.int .i64 n4), d5, .lit (.int .u64 n6)] } := rfl
  refine ⟨_, rfl, post_of_below (pa := p0 ++ ([] ++ ([] ++ ([] ++ ([] ++ (p5 ++ ([] ++ []))))))) (pv := []) hW' ?_ ?_ ?_ (by simp) hb ?_⟩
  · intro b sp hd
    rw [hfn]
    exact trodAll_mk1 (shut_bool Tryz.underlying4 true)
  · intro sp hsp
    rw [hfn, Tryz.params3]
    have st0 := Trod_stays (t := 22) (sp' := sp) laid_out read22 (lt_of22) h0 (fun x hx => hb.same (hlt x (by simp [hx]))) (fun x hx => hsp x (by simp [hx]))
    have st5 := Trod_stays (t := 22) (sp' := sp) laid_out read22 (lt_of22) h5 (fun x hx => hb.same (hlt x (by simp [hx]))) (fun x hx => hsp x (by simp [hx]))
    exact trodAll_cons_mk st0 (trodAll_cons_mk (shut_int Tryz.underlying3 w1) (trodAll_cons_mk (shut_int Tryz.underlying3 w2) (trodAll_cons_mk (shut_int Tryz.underlying3 w3) (trodAll_cons_mk (shut_int Tryz.underlying3 w4) (trodAll_cons_mk st5 (trodAll_cons_mk (shut_int Tryz.underlying23 w6) rfl))))))
  · intro sp hsp
    rw [hfn]
    rfl
  · exact ok_one (by kernel_rfl) rfl (okWide_bool_mk Tryz.underlying4 _)

end Go.Proofs.YtbomdnmkhegfnaaGreatDoor
