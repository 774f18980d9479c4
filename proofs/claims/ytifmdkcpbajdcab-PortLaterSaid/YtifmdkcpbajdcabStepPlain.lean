/- Plain laws: ships turned one by one. -/
import Derived.Test.YtifmdkcpbajdcabDeskPlain
namespace Go.Proofs.Ytifmdkcpbajdcab.Plain

/-- The first k ships turned, the others as they were. -/
def stepTo (f : Nat → Ship → Ship) (l : List Ship) (k : Nat) : List Ship := (List.range l.length).map fun i => if i < k then f i (l.getD i Ship.zero) else l.getD i Ship.zero

theorem step_len (f : Nat → Ship → Ship) (l : List Ship) (k : Nat) : (stepTo f l k).length = l.length := by simp [stepTo]
theorem step_get (f : Nat → Ship → Ship) (l : List Ship) (k i : Nat) (h : i < l.length) : (stepTo f l k).getD i Ship.zero = if i < k then f i (l.getD i Ship.zero) else l.getD i Ship.zero := by
  unfold stepTo
  rw [List.getD_eq_getElem?_getD, List.getElem?_map, List.getElem?_range h]; rfl
theorem ship_ext {l m : List Ship} (hl : l.length = m.length) (h : ∀ i, i < l.length → l.getD i Ship.zero = m.getD i Ship.zero) : l = m := by
  refine List.ext_getElem hl fun i h1 h2 => ?_
  have := h i h1
  rw [List.getD_eq_getElem?_getD, List.getD_eq_getElem?_getD, List.getElem?_eq_getElem h1, List.getElem?_eq_getElem h2] at this
  exact this
theorem step_zero (f : Nat → Ship → Ship) (l : List Ship) : stepTo f l 0 = l := by
  refine ship_ext (step_len f l 0) fun i h => ?_
  rw [step_len] at h
  rw [step_get f l 0 i h, if_neg (by omega)]
theorem step_next (f : Nat → Ship → Ship) (l : List Ship) (k : Nat) (h : k < l.length) : (stepTo f l k).set k (f k (l.getD k Ship.zero)) = stepTo f l (k + 1) := by
  refine ship_ext (by rw [List.length_set, step_len, step_len]) fun i hi => ?_
  rw [List.length_set, step_len] at hi
  rw [step_get f l (k + 1) i hi, List.getD_eq_getElem?_getD, List.getElem?_set]
  by_cases e : k = i
  · subst e
    rw [if_pos rfl, if_pos (by rw [step_len]; exact h), if_pos (by omega)]; rfl
  · rw [if_neg e, ← List.getD_eq_getElem?_getD, step_get f l k i hi]
    by_cases d : i < k
    · rw [if_pos d, if_pos (by omega)]
    · rw [if_neg d, if_neg (by omega)]
theorem step_same (f : Nat → Ship → Ship) (l : List Ship) (k : Nat) (h : k < l.length → f k (l.getD k Ship.zero) = l.getD k Ship.zero) : stepTo f l (k + 1) = stepTo f l k := by
  refine ship_ext (by rw [step_len, step_len]) fun i hi => ?_
  rw [step_len] at hi
  rw [step_get f l (k + 1) i hi, step_get f l k i hi]
  by_cases e : k = i
  · subst e
    rw [if_pos (by omega), if_neg (by omega), h hi]
  · by_cases d : i < k
    · rw [if_pos d, if_pos (by omega)]
    · rw [if_neg d, if_neg (by omega)]
theorem step_all (f : Nat → Ship → Ship) (l : List Ship) (k : Nat) (h : l.length ≤ k) : stepTo f l k = (List.range l.length).map fun i => f i (l.getD i Ship.zero) := by
  unfold stepTo
  refine List.map_congr_left fun i hi => ?_
  rw [if_pos (by have := List.mem_range.1 hi; omega)]

def lateF (now : Int) (_ : Nat) (s : Ship) : Ship := if s.state = 3 ∧ s.since + s.long ≤ now + 1 then { s with state := 4, since := 0 } else s
theorem later_ships (p : Port) : (laterL p).ships = stepTo (lateF p.now) p.ships p.ships.length := by rw [step_all _ _ _ (Nat.le_refl _)]; rfl

def dueF (p : Port) (plan : List Int) (i : Nat) (s : Ship) : Ship := if isDue p plan i = true then { s with state := 3, since := p.now } else s
theorem due_ships (p : Port) (plan : List Int) (k : Nat) (h : p.ships.length ≤ k) : (dueL p plan).ships = stepTo (dueF p plan) p.ships k := by rw [step_all _ _ _ h]; rfl

theorem due_ships2 (p : Port) (plan : List Int) : (dueL p plan).ships = stepTo (dueF p plan) p.ships plan.length := by
  rw [due_ships p plan p.ships.length (Nat.le_refl _)]
  refine ship_ext (by rw [step_len, step_len]) fun i hi => ?_
  rw [step_len] at hi
  rw [step_get _ _ _ i hi, step_get _ _ _ i hi, if_pos hi]
  by_cases c : i < plan.length
  · rw [if_pos c]
  · rw [if_neg c]
    unfold dueF
    rw [if_neg]
    simp [isDue, c]

/-- Who is due of the first k. -/
def whoTo (p : Port) (plan : List Int) (k : Nat) : List Nat := (List.range k).filter fun i => decide (i < p.ships.length) && isDue p plan i
theorem who_yes {p : Port} {plan : List Int} {k : Nat} (h : k < p.ships.length) (hd : isDue p plan k = true) : whoTo p plan (k + 1) = whoTo p plan k ++ [k] := by
  unfold whoTo; rw [List.range_succ, List.filter_append]; simp [h, hd]
theorem who_no {p : Port} {plan : List Int} {k : Nat} (h : ¬ (k < p.ships.length ∧ isDue p plan k = true)) : whoTo p plan (k + 1) = whoTo p plan k := by
  unfold whoTo; rw [List.range_succ, List.filter_append]
  have : (decide (k < p.ships.length) && isDue p plan k) = false := by
    rw [← Bool.not_eq_true, Bool.and_eq_true, decide_eq_true_eq]; exact h
  simp [this]
theorem who_len (p : Port) (plan : List Int) (k : Nat) : (whoTo p plan k).length ≤ k := by
  have := List.length_filter_le (fun i => decide (i < p.ships.length) && isDue p plan i) (List.range k)
  rwa [List.length_range] at this
theorem filter_all {n : Nat} (f g : Nat → Bool) : ∀ d, (∀ i, i < n → f i = g i) → (∀ i, n ≤ i → f i = false) → (List.range (n + d)).filter f = (List.range n).filter g
  | 0, h, _ => List.filter_congr fun i hi => h i (List.mem_range.1 hi)
  | d + 1, h, h2 => by
    rw [show n + (d + 1) = (n + d) + 1 from rfl, List.range_succ, List.filter_append, filter_all f g d h h2]
    simp [h2 (n + d) (by omega)]
theorem who_all (p : Port) (plan : List Int) : whoTo p plan plan.length = whoL p plan := by
  unfold whoTo whoL
  by_cases c : p.ships.length ≤ plan.length
  · obtain ⟨d, hd⟩ : ∃ d, plan.length = p.ships.length + d := ⟨plan.length - p.ships.length, by omega⟩
    rw [hd]
    exact filter_all _ _ d (fun i hi => by simp [hi]) (fun i hi => by simp; intro h; omega)
  · obtain ⟨d, hd⟩ : ∃ d, p.ships.length = plan.length + d := ⟨p.ships.length - plan.length, by omega⟩
    rw [hd]
    symm
    exact filter_all _ _ d (fun i hi => by simp; omega) (fun i hi => by simp [isDue]; omega)

/-! Time alone moves nobody. -/

theorem late_now {p : Port} (h : PGood p) (k : Nat) : (p.now < (thePlan p).getD k (-1) → (notDue p (thePlan p)).getD k (-1) = (thePlan p).getD k (-1)) ∧ ((thePlan p).getD k (-1) < 0 → (notDue p (thePlan p)).getD k (-1) < 0) := by
  rw [notDue_get]
  constructor
  · intro ht
    rw [if_neg]
    intro hd
    simp only [isDue, Bool.and_eq_true, decide_eq_true_eq] at hd
    omega
  · intro ht
    split
    · omega
    · exact ht

theorem who_get {p : Port} {k : Nat} (hk : k < (whoL p (thePlan p)).length) :
    (whoL p (thePlan p)).getD k 0 < p.ships.length ∧ (thePlan p).getD ((whoL p (thePlan p)).getD k 0) (-1) = p.now ∧ ((nextL p).ship ((whoL p (thePlan p)).getD k 0)).state = 3 ∧ ((nextL p).ship ((whoL p (thePlan p)).getD k 0)).since = p.now := by
  have hm : (whoL p (thePlan p)).getD k 0 ∈ whoL p (thePlan p) := by
    rw [List.getD_eq_getElem?_getD, List.getElem?_eq_getElem hk]; exact List.getElem_mem hk
  generalize (whoL p (thePlan p)).getD k 0 = i at *
  unfold whoL at hm
  rw [List.mem_filter, List.mem_range] at hm
  obtain ⟨h1, h2⟩ := hm
  have h3 := h2
  simp only [isDue, Bool.and_eq_true, decide_eq_true_eq] at h3
  rw [next_ship h1, if_pos h2]
  exact ⟨h1, h3.1.2, rfl, rfl⟩

theorem later_facts {p : Port} (h : PGood p) (h1 : p.now + 1 < 300) : PGood (laterL (nextL p)) ∧ thePlan (laterL (nextL p)) = notDue p (thePlan p) := by
  obtain ⟨a, b, c⟩ := next_plan h
  obtain ⟨d, e⟩ := later_settled c h1
  exact ⟨d, e.trans b⟩
end Go.Proofs.Ytifmdkcpbajdcab.Plain
