/-
  A TABLE IS ITS PLACES, A CAP ITS COUNT, A CHANNEL ITS ROW: for every input the law TopTimetable returns true, and each argument reads behind the call as it read before.
-/
import Derived.Test.YtbomdnmkhegfnaaGreatDoorCall
import Derived.Test.YtbomdnmkhegfnaaGreatDoorTie
import Derived.Test.YtbomdnmkhegfnaaGreatDoorCards
import Derived.ChangeSame
import Derived.ChangeVars
import Derived.JoinedOf
import Derived.RowKit
import Derived.RowKitTokens
import Derived.LaidLaws
import Derived.LaidHandle
import Derived.LaidMore
import Derived.OpenShut
import Derived.Carry
import Derived.ProofKit
import Derived.SevenTiedAt
import Derived.Stop.Joined
set_option linter.all false
namespace Go.Proofs.YtbomdnmkhegfnaaGreatDoor
open Go Go.ChangeShapes Go.WideShapes Go.RowKit Go.ChangeAt Go.WideElems

section
variable {H : Type} {enc : TypeId × Value → H} {P : Program}
theorem post_of_below {f : Func} {s : ChangeSpec} {apart fresh handsOn again : Bool} {W W' : World} {args : Array Value} {v : Value} {ds gs : List (DataW H)} {before pa pv : List MemPlace}
    (hW : DataW.Whole enc P f.params.toList s.vars apart W args.toList ds gs before)
    (hres : ∀ (b : Nat) (sp : Nat → Bool) (hd : Bool), DataW.TrodAll enc P W' b sp hd f.resultTypes.toList (v.resultList f.resultTypes.size) (s.fn H (ds ++ gs)).results [])
    (hargs : ∀ sp : Nat → Bool, (∀ p ∈ before, sp p.block = true) → DataW.TrodAll enc P W' 0 sp true f.params.toList args.toList (s.fn H (ds ++ gs)).args pa)
    (hvars : ∀ sp : Nat → Bool, (∀ p ∈ before, sp p.block = true) → DataW.TrodVars enc P W' sp s.vars (s.fn H (ds ++ gs)).vars pv)
    (hps : before = pa ++ pv) (hb : Below W.heap.size W W')
    (hok : ∀ (j : Nat) (t : TypeId) (r : Value), f.resultTypes[j]? = some t → (v.resultList f.resultTypes.size)[j]? = some r → Value.okWide P W' .any 0 t r) :
    s.post enc P f apart fresh handsOn again W args v W' := by
  have hlt : ∀ p ∈ before, p.block < W.heap.size := fun p hp => hW.lt p hp
  have hold : ∀ p ∈ before, (fun b => decide (b < W.heap.size)) p.block = true := fun p hp => by simpa using hlt p hp
  refine ⟨ds, gs, before, [], pa, pv, hW, hres _ _ _, hargs _ hold, hvars _ hold, World.keptBut_mono (fun p hp => ⟨hp, ?_⟩) (hb.frame (· ∈ before)), fun _ => ?_⟩
  · rw [hps, List.mem_append] at hp
    exact Or.inr hp
  · obtain ⟨_, _, _, _, _, hz, hn⟩ := hW
    refine ⟨hok, _, _, ([] ++ pa) ++ pv, ⟨[] ++ pa, pv, trodAll_append (hargs _ (fun _ _ => rfl)) (hres _ _ _), hvars _ (fun _ _ => rfl), rfl, ?_, ?_⟩, ?_⟩
    · intro b off hp
      have hin : MemPlace.cell b off ∈ before := by rw [hps]; simpa using hp
      rw [hb.frozen (hlt _ hin)]
      exact hz b off hin
    · intro ha
      have := hn ha
      rw [hps] at this
      simpa using this
    · intro p hp _
      rw [hps]
      simpa using hp
end

section
variable {H : Type} {enc : TypeId × Value → H} {P : Program} {w : World} {base : Nat} {spare : Nat → Bool} {held : Bool}
theorem trodAll_inv {t : TypeId} {ts : List TypeId} {vs : List Value} {ds : List (DataW H)} {ps : List MemPlace} (h : DataW.TrodAll enc P w base spare held (t :: ts) vs ds ps) :
    ∃ v vs' d ds' p q, vs = v :: vs' ∧ ds = d :: ds' ∧ DataW.Trod enc P w base spare held t v d p ∧ DataW.TrodAll enc P w base spare held ts vs' ds' q ∧ ps = p ++ q := by
  match vs, ds, h with
  | v :: vs', d :: ds', ⟨p, q, h1, h2, h3⟩ => exact ⟨v, vs', d, ds', p, q, rfl, rfl, h1, h2, h3⟩
theorem trodAll_end {vs : List Value} {ds : List (DataW H)} {ps : List MemPlace} (h : DataW.TrodAll enc P w base spare held [] vs ds ps) : vs = [] ∧ ds = [] ∧ ps = [] := by
  match vs, ds, h with
  | [], [], h => exact ⟨rfl, rfl, h⟩
end

/-! ## The listed variables -/

def laid6 : List (String × DataW Unit) := [("math/bits.deBruijn32tab", Rows.laid_math_bits_deBruijn32tab), ("math/bits.deBruijn64tab", Rows.laid_math_bits_deBruijn64tab), ("internal/strconv.uint64pow10", Rows.laid_internal_strconv_uint64pow10), ("nacelle/sha.key", Rows.laid_nacelle_sha_key), ("errors.errorType", Rows.laid_errors_errorType), ("nacelle/crc.half", Rows.laid_nacelle_crc_half)]
def laid5 : List (String × DataW Unit) := [("math/bits.deBruijn32tab", Rows.laid_math_bits_deBruijn32tab), ("math/bits.deBruijn64tab", Rows.laid_math_bits_deBruijn64tab), ("internal/strconv.uint64pow10", Rows.laid_internal_strconv_uint64pow10), ("nacelle/sha.key", Rows.laid_nacelle_sha_key), ("nacelle/crc.half", Rows.laid_nacelle_crc_half)]

theorem own : ownKnob Tryz.prog.godebug = none := by kernel_rfl
theorem gErr : Tryz.prog.globalNamed "errors.errorType" = some 1 := by kernel_rfl
theorem gCrc : Tryz.prog.globalNamed "nacelle/crc.half" = some 0 := by kernel_rfl
theorem tCrc : (Tryz.prog.globals[0]?).map (·.type) = some 277 := by kernel_rfl
theorem rt : (Tryz.prog.cutTypes.find? (·.1 == "internal/reflectlite.rtype")).map (·.2) = some 344 := by kernel_rfl
theorem tsize : Tryz.prog.types.size = 509 := by kernel_rfl
theorem oneRow : ((List.range 509).filter fun t => Tryz.prog.rowNamed t [101, 114, 114, 111, 114]) = [35] := by kernel_rfl
theorem handle35 : typeHandle Tryz.prog 35 = .pointer (some ⟨7, 35, none⟩) := by kernel_rfl
theorem c90 : Tryz.prog.cellsOf 90 = 1 := by kernel_rfl

theorem var_block {W : World} {n : String} {g : Nat} {cs : Array Value} (hg : Tryz.prog.globalNamed n = some g) (h : W.var? Tryz.prog n = some cs) : ∃ e f, W.heap[g]? = some (.cells cs e f) := by
  unfold World.var? at h
  rw [hg] at h
  simp only [Option.bind_some] at h
  split at h
  · rename_i c e f hc
    simp only [Option.some.injEq] at h; subst h
    exact ⟨e, f, hc⟩
  · simp at h

theorem err_of_laid {W : World} (h : handlesMet Tryz.prog [("errors.errorType", Rows.laid_errors_errorType)] W) : ∃ cs e f, W.heap[1]? = some (.cells cs e f) ∧ cs[0]? = some Go.Abs.hErr := by
  obtain ⟨name, u, ty, e1, e2, e3, e4, e5⟩ := h _ (List.mem_singleton.2 rfl)
  have en : name = [101, 114, 114, 111, 114] := (Option.some.inj e1).symm
  subst en
  obtain rfl := Option.some.inj (rt.symm.trans e2)
  have hm : ty ∈ (List.range 509).filter fun t => Tryz.prog.rowNamed t [101, 114, 114, 111, 114] := List.mem_filter.2 ⟨List.mem_range.2 (by rw [← tsize]; exact e3), e4⟩
  rw [oneRow] at hm
  obtain rfl := List.mem_singleton.1 hm
  rw [handle35] at e5
  obtain ⟨e, f, hb⟩ := var_block gErr e5
  exact ⟨_, e, f, hb, rfl⟩

def crcN : List Int := [0, 274646895, 549293790, 820201905, 1098587580, 1361435347, 1640403810, 1905808397, 2197175160, 2460548119, 2722870694, 2987750089, 3280807620, 3553878443, 3811616794, 4084100981]
theorem crc_datum : (Rows.laid_nacelle_crc_half : DataW Unit) = .agg (crcN.map fun n => .lit (.int .u32 n)) := rfl
theorem crc_cells : Go.Abs.crcT = crcN.map fun n => .int .u32 n := rfl

theorem crc_of_laid {W : World} (h : laidMet Tryz.prog laid5 W) : ∃ cs e f, W.heap[0]? = some (.cells cs e f) ∧ ∀ (i : Nat) x, Go.Abs.crcT[i]? = some x → cs[i]? = some x := by
  obtain ⟨ps, ⟨_, _, _, _, _, _, _, _, _, _, ⟨_, _, _, _, _, _, _, _, _, _, ⟨_, _, _, _, _, _, _, _, _, _, ⟨_, _, _, _, _, _, _, _, _, _, ⟨g, t, cs, fu, p, q, hg, ht, hv, hd, _, _⟩, _⟩, _⟩, _⟩, _⟩, _, _⟩ := h
  obtain rfl := Option.some.inj (gCrc.symm.trans hg)
  obtain rfl := Option.some.inj (tCrc.symm.trans ht)
  obtain ⟨e, f, hb⟩ := var_block gCrc hv
  refine ⟨cs, e, f, hb, fun i x hx => ?_⟩
  obtain ⟨xs, m, _, hxs, hlen, hxl, hel⟩ := DataW.trod_array Tryz.underlying277 hd
  rw [crc_datum] at hxs
  simp only [Prod.mk.injEq, DataW.agg.injEq] at hxs
  have hi : i < 16 := (List.getElem?_eq_some_iff.1 hx).1
  have hy : ∃ y, xs[i]? = some y := ⟨_, List.getElem?_eq_getElem (by omega)⟩
  obtain ⟨y, hy⟩ := hy
  have h1 := hel i hi
  rw [c90, hy] at h1
  obtain ⟨n, g1, g2, _⟩ := DataW.trod_int Tryz.underlying90 h1
  have h2 := congrArg (·[i]?) hxs.1
  simp only [List.getElem?_map, hy, Option.map_some, g2] at h2
  rw [crc_cells, List.getElem?_map] at hx
  obtain ⟨k, hk1, hk2⟩ := Option.map_eq_some_iff.1 hx
  rw [hk1] at h2
  simp only [Option.map_some, Option.some.injEq, DataW.lit.injEq, Lit.int.injEq, true_and] at h2
  subst h2
  rw [Nat.mul_one] at g1
  have h3 := congrArg (·[0]?) g1
  simp only [List.getElem?_take, List.getElem?_drop] at h3
  rw [if_pos (by omega), Nat.add_zero, Array.getElem?_toList] at h3
  rw [h3, ← hk2]
  rfl

/-- The door's own heap meets the condition. -/
theorem door_met (os : Os) (args : Array Value) : laidMetH Tryz.prog laid6 ((World.doorLaid Tryz.prog 41 os).forCall (fun _ _ => 0) ⟨#[], args, []⟩).memory :=
  laidMetH_of_parts3 (fuel := 8) (laidMet_of_run' 8 (by kernel_rfl) (by kernel_rfl)) (by kernel_rfl) (by kernel_rfl)

end Go.Proofs.YtbomdnmkhegfnaaGreatDoor
