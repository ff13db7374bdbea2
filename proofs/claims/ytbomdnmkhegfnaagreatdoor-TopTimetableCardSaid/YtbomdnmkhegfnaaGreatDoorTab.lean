/-
  A TABLE IS ITS PLACES, in plain Lean: windows, and the row of places that they lay.
-/

set_option linter.all false
namespace Go.Tt

structure Win where
  part : Int
  start : Nat
  ticks : Nat

/-- Windows, whose turn each place is, in which window it lies. -/
inductive Lay : List Win → List Int → List Int → Prop
  | nil : Lay [] [] []
  | gap {ws who which} (h : Lay ws who which) : Lay ws (who ++ [-1]) (which ++ [-1])
  | win {ws who which} (h : Lay ws who which) (p : Int) (k : Nat) (hp : 0 ≤ p) (hp' : p < 4) (hk : 0 < k) :
    Lay (ws ++ [⟨p, who.length, k⟩]) (who ++ List.replicate k p) (which ++ List.replicate k (ws.length : Int))

theorem Lay.len {ws who which} (h : Lay ws who which) : which.length = who.length := by
  induction h with
  | nil => rfl
  | gap h ih => simp [ih]
  | win h p k _ _ _ ih => simp [ih]

/-- Windows are in order, and lie in so many ticks. -/
def Fits (T : Nat) : Nat → List Win → Prop
  | _, [] => True
  | e, w :: ws => 0 ≤ w.part ∧ w.part < 4 ∧ 1 ≤ w.ticks ∧ e ≤ w.start ∧ w.start + w.ticks ≤ T ∧ Fits T (w.start + w.ticks) ws

theorem Fits.mono {T T' : Nat} (hT : T ≤ T') : ∀ {ws : List Win} {e : Nat}, Fits T e ws → Fits T' e ws
  | [], _, _ => trivial
  | _ :: _, _, ⟨h1, h2, h3, h4, h5, h6⟩ => ⟨h1, h2, h3, h4, by omega, h6.mono hT⟩

theorem Fits.snoc {T : Nat} {w : Win} (h1 : 0 ≤ w.part) (h2 : w.part < 4) (h3 : 1 ≤ w.ticks) (h4 : T ≤ w.start) : ∀ {ws : List Win} {e : Nat}, Fits T e ws → e ≤ w.start → Fits (w.start + w.ticks) e (ws ++ [w])
  | [], _, _, he => ⟨h1, h2, h3, he, Nat.le_refl _, trivial⟩
  | _ :: _, _, ⟨g1, g2, g3, g4, g5, g6⟩, _ => ⟨g1, g2, g3, g4, by omega, Fits.snoc h1 h2 h3 h4 g6 (by omega)⟩

theorem Lay.fits {ws who which} (h : Lay ws who which) : Fits who.length 0 ws := by
  induction h with
  | nil => trivial
  | gap h ih => exact ih.mono (by simp)
  | win h p k hp hp' hk ih => simpa using Fits.snoc (w := ⟨p, _, k⟩) hp hp' hk (Nat.le_refl _) ih (Nat.zero_le _)

/-- The window that has a place: by its number, or -1. -/
def atL (ws : List Win) (place : Nat) : Int := match ws.findIdx? fun w => decide (w.start ≤ place ∧ place < w.start + w.ticks) with
  | some i => i
  | none => -1

theorem Fits.ge {T : Nat} : ∀ {ws : List Win} {e : Nat}, Fits T e ws → ∀ w ∈ ws, e ≤ w.start
  | _ :: _, _, ⟨_, _, _, g4, _, g6⟩, w, hw => by
    rcases List.mem_cons.1 hw with rfl | hw
    · exact g4
    · have := g6.ge w hw; omega
theorem Fits.le {T : Nat} : ∀ {ws : List Win} {e : Nat}, Fits T e ws → ∀ w ∈ ws, w.start + w.ticks ≤ T
  | _ :: _, _, ⟨_, _, _, _, g5, g6⟩, w, hw => by
    rcases List.mem_cons.1 hw with rfl | hw
    · exact g5
    · exact g6.le w hw
theorem Fits.part {T : Nat} : ∀ {ws : List Win} {e : Nat}, Fits T e ws → ∀ w ∈ ws, 0 ≤ w.part ∧ w.part < 4 ∧ 1 ≤ w.ticks
  | _ :: _, _, ⟨g1, g2, g3, _, _, g6⟩, w, hw => by
    rcases List.mem_cons.1 hw with rfl | hw
    · exact ⟨g1, g2, g3⟩
    · exact g6.part w hw

/-- Of each place. -/
theorem Lay.place {ws who which} (h : Lay ws who which) : ∀ j (hj : j < who.length),
    (∃ (i : Nat) (w : Win), ws[i]? = some w ∧ w.start ≤ j ∧ j < w.start + w.ticks ∧ which[j]? = some (i : Int) ∧ who[j]? = some w.part) ∨
    ((∀ w ∈ ws, ¬(w.start ≤ j ∧ j < w.start + w.ticks)) ∧ which[j]? = some (-1) ∧ who[j]? = some (-1)) := by
  induction h with
  | nil => intro j hj; simp at hj
  | @gap ws who which h ih =>
    intro j hj
    by_cases hlt : j < who.length
    · rw [List.getElem?_append_left (by rw [h.len]; exact hlt), List.getElem?_append_left hlt]
      exact ih j hlt
    · obtain rfl : j = who.length := by simp at hj; omega
      right
      refine ⟨fun w hw => ?_, by rw [List.getElem?_append_right (by rw [h.len]; omega)]; simp [h.len], by simp⟩
      have := h.fits.le w hw; omega
  | @win ws who which h p k hp hp' hk ih =>
    intro j hj
    by_cases hlt : j < who.length
    · rw [List.getElem?_append_left (by rw [h.len]; exact hlt), List.getElem?_append_left hlt]
      rcases ih j hlt with ⟨i, w, h1, h2⟩ | ⟨h1, h2⟩
      · exact .inl ⟨i, w, by rw [List.getElem?_append_left (by have := List.getElem?_eq_some_iff.1 h1; exact this.1)]; exact h1, h2⟩
      · refine .inr ⟨fun w hw => ?_, h2⟩
        rcases List.mem_append.1 hw with hw | hw
        · exact h1 w hw
        · rcases List.mem_singleton.1 hw with rfl
          simp; omega
    · left
      simp only [List.length_append, List.length_replicate] at hj
      refine ⟨ws.length, ⟨p, who.length, k⟩, by simp, by simp; omega, by simp; omega, ?_, ?_⟩
      · rw [List.getElem?_append_right (by rw [h.len]; omega), List.getElem?_replicate, if_pos (by rw [h.len]; omega)]
      · rw [List.getElem?_append_right (by omega), List.getElem?_replicate, if_pos (by omega)]

/-- How many of the places below one are a partition's. -/
def cnt (part : Int) (who : List Int) (n : Nat) : Nat := ((who.take n).filter fun x => decide (x = part)).length

theorem cnt_zero (part : Int) (who : List Int) : cnt part who 0 = 0 := by simp [cnt]
theorem cnt_le (part : Int) (who : List Int) (n : Nat) : cnt part who n ≤ n := by
  unfold cnt
  have h1 := List.length_filter_le (fun x => decide (x = part)) (who.take n)
  have h2 := List.length_take_le n who
  omega
theorem cnt_all (part : Int) (who : List Int) {n : Nat} (h : who.length ≤ n) : cnt part who n = cnt part who who.length := by
  simp [cnt, List.take_of_length_le h]
theorem cnt_succ (part : Int) (who : List Int) (n : Nat) (h : n < who.length) : cnt part who (n + 1) = cnt part who n + if who[n] = part then 1 else 0 := by
  unfold cnt
  rw [List.take_succ_eq_append_getElem h, List.filter_append, List.length_append]
  by_cases hp : who[n] = part <;> simp [hp]

/-- What a window gives to a partition's turns below a place. -/
def gives (part : Int) (place : Int) (w : Win) : Int := if w.part = part then max 0 (min (w.ticks : Int) (place - w.start)) else 0
def sumI : List Int → Int
  | [] => 0
  | x :: xs => x + sumI xs
theorem sumI_append (l m : List Int) : sumI (l ++ m) = sumI l + sumI m := by
  induction l with
  | nil => simp [sumI]
  | cons x l ih => simp [sumI, ih]; omega

theorem take_rep (p part : Int) (k m : Nat) : (((List.replicate k p).take m).filter fun x => decide (x = part)).length = if p = part then min m k else 0 := by
  rw [List.take_replicate]
  by_cases h : p = part
  · rw [if_pos h, List.filter_replicate]; simp [h]
  · rw [if_neg h, List.filter_replicate]; simp [h]

theorem Lay.under {ws who which} (h : Lay ws who which) (part : Int) (hp : 0 ≤ part) : ∀ place : Nat, sumI (ws.map (gives part place)) = cnt part who place := by
  induction h with
  | nil => intro place; simp [sumI, cnt]
  | @gap ws who which h ih =>
    intro place
    rw [ih]
    unfold cnt
    rw [List.take_append, List.filter_append, List.length_append]
    have : (List.filter (fun x => decide (x = part)) (List.take (place - who.length) [-1])).length = 0 := by
      have h1 : (-1 : Int) ≠ part := by omega
      rcases hm : place - who.length with _ | m
      · simp
      · simp [h1]
    omega
  | @win ws who which h p k hp hp' hk ih =>
    intro place
    rw [List.map_append, sumI_append, ih]
    unfold cnt
    rw [List.take_append, List.filter_append, List.length_append, take_rep]
    simp only [List.map_cons, List.map_nil, sumI, gives]
    by_cases hpp : p = part
    · simp only [hpp, if_true]
      omega
    · simp only [hpp, if_false]; omega

/-- Turns, place by place. -/
def turnsL (who : List Int) (part : Int) (n : Nat) : Nat → Nat
  | 0 => 0
  | i + 1 => turnsL who part n i + if who[i]? = some part then n / who.length + (if i < n % who.length then 1 else 0) else 0

theorem turnsL_eq (who : List Int) (part : Int) (n : Nat) : ∀ i, i ≤ who.length → turnsL who part n i = n / who.length * cnt part who i + cnt part who (min i (n % who.length))
  | 0, _ => by simp [turnsL, cnt_zero]
  | i + 1, h => by
    rw [turnsL, turnsL_eq who part n i (by omega), cnt_succ part who i (by omega)]
    have hg : (who[i]? = some part) = (who[i] = part) := by rw [List.getElem?_eq_getElem (by omega)]; simp
    by_cases hm : i < n % who.length
    · rw [Nat.min_eq_left (by omega), Nat.min_eq_left (by omega), cnt_succ part who i (by omega)]
      simp only [hg, if_pos hm]
      split <;> simp [Nat.mul_add] <;> omega
    · rw [Nat.min_eq_right (by omega), Nat.min_eq_right (by omega)]
      simp only [hg, if_neg hm]
      split <;> simp [Nat.mul_add] <;> omega

theorem turnsL_all (who : List Int) (part : Int) (n : Nat) (h : 0 < who.length) : turnsL who part n who.length = n / who.length * cnt part who who.length + cnt part who (n % who.length) := by
  rw [turnsL_eq who part n _ (Nat.le_refl _), Nat.min_eq_right (Nat.le_of_lt (Nat.mod_lt _ h))]
theorem turnsL_le (who : List Int) (part : Int) (n i : Nat) (h : i ≤ who.length) (h0 : 0 < who.length) : turnsL who part n i ≤ n := by
  rw [turnsL_eq who part n i h]
  have h1 : cnt part who i ≤ who.length := by have := cnt_le part who i; omega
  have h2 : cnt part who (min i (n % who.length)) ≤ n % who.length := by have := cnt_le part who (min i (n % who.length)); omega
  have h3 : n / who.length * cnt part who i ≤ n / who.length * who.length := Nat.mul_le_mul_left _ h1
  have h4 := Nat.div_add_mod n who.length
  rw [Nat.mul_comm] at h4
  omega

/-- Windows stand in order. -/
theorem Fits.order {T : Nat} : ∀ {ws : List Win} {e : Nat}, Fits T e ws → ∀ (i j : Nat) (w v : Win), i < j → ws[i]? = some w → ws[j]? = some v → w.start + w.ticks ≤ v.start
  | _ :: ws, _, ⟨_, _, _, _, _, g6⟩, 0, j + 1, w, v, _, h1, h2 => by
    simp only [List.getElem?_cons_zero, Option.some.injEq] at h1
    subst h1
    exact g6.ge v (List.mem_of_getElem? (by simpa using h2))
  | _ :: ws, _, ⟨_, _, _, _, _, g6⟩, i + 1, j + 1, w, v, hij, h1, h2 => by
    exact g6.order i j w v (by omega) (by simpa using h1) (by simpa using h2)

/-- The first window that ends behind a place tells all of the place. -/
def atR (ws : List Win) (r j : Nat) : Int := match ws[r]? with
  | some w => if w.start ≤ j then (r : Int) else -1
  | none => -1

theorem Lay.search {ws who which} (h : Lay ws who which) {j r : Nat} (hj : j < who.length) (h1 : ∀ x w, x < r → ws[x]? = some w → w.start + w.ticks ≤ j) (h2 : ∀ x w, r ≤ x → ws[x]? = some w → j < w.start + w.ticks) :
    which[j]? = some (atR ws r j) := by
  rcases h.place j hj with ⟨i, w, g1, g2, g3, g4, _⟩ | ⟨g1, g2, _⟩
  · have e : r = i := by
      rcases Nat.lt_trichotomy r i with hlt | he | hgt
      · have hr : r < ws.length := by have := (List.getElem?_eq_some_iff.1 g1).1; omega
        have := h2 r ws[r] (Nat.le_refl _) (List.getElem?_eq_getElem hr)
        have := h.fits.order r i ws[r] w hlt (List.getElem?_eq_getElem hr) g1
        omega
      · exact he
      · have := h1 i w hgt g1; omega
    subst e
    rw [g4]; simp only [atR, g1, if_pos g2]
  · rw [g2]
    unfold atR
    split
    · rename_i w hw
      have := h2 r w (Nat.le_refl _) hw
      rw [if_neg (fun hs => g1 w (List.mem_of_getElem? hw) ⟨hs, this⟩)]
    · rfl

/-- Whose turn it is, by which window it is. -/
theorem Lay.who {ws who which} (h : Lay ws who which) {j : Nat} (hj : j < who.length) :
    (∃ (i : Nat) (w : Win), which[j]? = some (i : Int) ∧ ws[i]? = some w ∧ who[j]? = some w.part) ∨ (which[j]? = some (-1) ∧ who[j]? = some (-1)) := by
  rcases h.place j hj with ⟨i, w, g1, _, _, g4, g5⟩ | ⟨_, g2, g3⟩
  · exact .inl ⟨i, w, g4, g1, g5⟩
  · exact .inr ⟨g2, g3⟩

end Go.Tt
