/- Plain laws: what is free, taken one by one. -/
import Derived.Test.YtifmdkcpbajdcaaSpanLawPlain
namespace Go.Proofs.Ytifmdkcpbajdcaa.Plain

def base1 (p : Port) (k : Nat) : Prof × Bool := takes (takeL newL 0 300 p.shut) ((p.ships.take k).filterMap (shipItem p))
def base2 (p : Port) (k : Nat) : Prof × Bool := takes (base1 p p.ships.length) ((p.kept.take k).filterMap (keptItem p))

theorem takes_snoc (b : Prof × Bool) (xs : List Item) (x : Item) : takes b (xs ++ [x]) = if (takes b xs).2 = true then takeL (takes b xs).1 x.fr x.to x.w else takes b xs := by
  unfold takes; rw [List.foldl_append]; rfl

theorem take_snoc {α : Type} (l : List α) (d : α) (k : Nat) (h : k < l.length) : l.take (k + 1) = l.take k ++ [l.getD k d] := by
  rw [List.take_succ_eq_append_getElem h, List.getD_eq_getElem?_getD, List.getElem?_eq_getElem h]; rfl

theorem base1_lies {p : Port} {k : Nat} (h : k < p.ships.length) (hs : (p.ship k).state = 3) (ho : (base1 p k).2 = true) :
    base1 p (k + 1) = takeL (base1 p k).1 (max 0 p.now) ((p.ship k).since + (p.ship k).long) (p.ship k).wide := by
  unfold base1 at *
  rw [take_snoc _ Ship.zero k h, List.filterMap_append]
  have e : [p.ships.getD k Ship.zero].filterMap (shipItem p) = [⟨max 0 p.now, (p.ship k).since + (p.ship k).long, (p.ship k).wide⟩] := by
    simp only [List.filterMap_cons, List.filterMap_nil, shipItem]
    rw [if_pos (show (p.ships.getD k Ship.zero).state = 3 from hs)]; rfl
  rw [e, takes_snoc, if_pos ho]

theorem base1_still {p : Port} {k : Nat} (h : k < p.ships.length) (hs : (p.ship k).state ≠ 3 ∨ (base1 p k).2 = false) : base1 p (k + 1) = base1 p k := by
  unfold base1 at *
  rw [take_snoc _ Ship.zero k h, List.filterMap_append]
  by_cases c : (p.ship k).state = 3
  · have ho := hs.resolve_left (fun h => h c)
    have e : [p.ships.getD k Ship.zero].filterMap (shipItem p) = [⟨max 0 p.now, (p.ship k).since + (p.ship k).long, (p.ship k).wide⟩] := by
      simp only [List.filterMap_cons, List.filterMap_nil, shipItem]
      rw [if_pos (show (p.ships.getD k Ship.zero).state = 3 from c)]; rfl
    rw [e, takes_snoc, if_neg (by rw [ho]; simp)]
  · have e : [p.ships.getD k Ship.zero].filterMap (shipItem p) = [] := by
      simp only [List.filterMap_cons, List.filterMap_nil, shipItem]
      rw [if_neg (show ¬ (p.ships.getD k Ship.zero).state = 3 from c)]
    rw [e, List.append_nil]

theorem base2_lies {p : Port} {k : Nat} (h : k < p.kept.length) (hs : 0 < (p.keep k).wide ∧ max (max (p.keep k).fr p.now) 0 < (p.keep k).to) (ho : (base2 p k).2 = true) :
    base2 p (k + 1) = takeL (base2 p k).1 (max (max (p.keep k).fr p.now) 0) (p.keep k).to (p.keep k).wide := by
  unfold base2 at *
  rw [take_snoc _ Kept.zero k h, List.filterMap_append]
  have e : [p.kept.getD k Kept.zero].filterMap (keptItem p) = [⟨max (max (p.keep k).fr p.now) 0, (p.keep k).to, (p.keep k).wide⟩] := by
    simp only [List.filterMap_cons, List.filterMap_nil, keptItem]
    rw [if_pos (show 0 < (p.kept.getD k Kept.zero).wide ∧ max (max (p.kept.getD k Kept.zero).fr p.now) 0 < (p.kept.getD k Kept.zero).to from hs)]; rfl
  rw [e, takes_snoc, if_pos ho]

theorem base2_still {p : Port} {k : Nat} (h : k < p.kept.length) (hs : ¬ (0 < (p.keep k).wide ∧ max (max (p.keep k).fr p.now) 0 < (p.keep k).to) ∨ (base2 p k).2 = false) : base2 p (k + 1) = base2 p k := by
  unfold base2 at *
  rw [take_snoc _ Kept.zero k h, List.filterMap_append]
  by_cases c : 0 < (p.keep k).wide ∧ max (max (p.keep k).fr p.now) 0 < (p.keep k).to
  · have ho := hs.resolve_left (fun h => h c)
    have e : [p.kept.getD k Kept.zero].filterMap (keptItem p) = [⟨max (max (p.keep k).fr p.now) 0, (p.keep k).to, (p.keep k).wide⟩] := by
      simp only [List.filterMap_cons, List.filterMap_nil, keptItem]
      rw [if_pos (show 0 < (p.kept.getD k Kept.zero).wide ∧ max (max (p.kept.getD k Kept.zero).fr p.now) 0 < (p.kept.getD k Kept.zero).to from c)]; rfl
    rw [e, takes_snoc, if_neg (by rw [ho]; simp)]
  · have e : [p.kept.getD k Kept.zero].filterMap (keptItem p) = [] := by
      simp only [List.filterMap_cons, List.filterMap_nil, keptItem]
      rw [if_neg (show ¬ (0 < (p.kept.getD k Kept.zero).wide ∧ max (max (p.kept.getD k Kept.zero).fr p.now) 0 < (p.kept.getD k Kept.zero).to) from c)]
    rw [e, List.append_nil]

theorem base1_all (p : Port) : base2 p 0 = base1 p p.ships.length := by unfold base2; rw [List.take_zero]; rfl
theorem base2_all (p : Port) (h : p.kept.length = 4) : base2 p 4 = baseL p := by
  unfold base2 base1 baseL
  rw [← h, List.take_length, List.take_length]

theorem takeL_kept {l : Prof} {fr to n : Int} (h : Good l) : Good (takeL l fr to n).1 := by
  unfold takeL
  split
  · by_cases c : 0 ≤ fr ∧ fr ≤ to ∧ to ≤ 300
    · obtain ⟨_, a2, _⟩ := addL_good (n := -n) h c.1 c.2.1 c.2.2
      cases e : (addL l fr to (-n)).2 with
      | true => exact (a2 e).1
      | false =>
        have : (addL l fr to (-n)).1 = l := by
          unfold addL at *
          split at e
          · split at e
            · simp at e
            · rename_i h1 h2; rw [if_pos h1, if_neg h2]
          · rename_i h1; rw [if_neg h1]
        rw [this]; exact h
    · rw [addL_bad fun hh => c ⟨hh.2.1, hh.2.2.1, hh.2.2.2⟩]; exact h
  · exact h

theorem takes_kept (xs : List Item) : ∀ {b : Prof × Bool}, Good b.1 → Good (takes b xs).1 := by
  induction xs with
  | nil => intro b h; exact h
  | cons x xs ih =>
    intro b h
    show Good (takes (if b.2 = true then takeL b.1 x.fr x.to x.w else b) xs).1
    refine ih ?_
    split
    · exact takeL_kept h
    · exact h

theorem base1_good (p : Port) (k : Nat) : Good (base1 p k).1 := takes_kept _ (takeL_kept new_good)
theorem base2_good (p : Port) (k : Nat) : Good (base2 p k).1 := takes_kept _ (base1_good p _)
end Go.Proofs.Ytifmdkcpbajdcaa.Plain
