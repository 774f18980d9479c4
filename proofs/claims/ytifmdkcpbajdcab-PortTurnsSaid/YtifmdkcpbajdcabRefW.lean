/- Words: what is free time by time: the small parts. -/
import Derived.Test.YtifmdkcpbajdcabArr
set_option linter.unusedVariables false
set_option linter.unusedSimpArgs false
namespace Go.Proofs.Ytifmdkcpbajdcab
open Go.RowKit Go.Proofs Plain

set_option maxHeartbeats 400000 in
theorem within_any (n lo hi : Int) (w : World) :
    Calls Try.prog 35 #[.int .i64 n, .int .i64 lo, .int .i64 hi] w fun e w' => e = .returned (.bool (decide (lo ≤ n) && decide (n ≤ hi))) ∧ w' = w := by
  by_cases h : lo ≤ n
  all_goals
    go_enter Try.func35, Try.ntmps35
    go_wp2_with fail
    go_ret
    exact ⟨ret_bool (by rw [Bool.eq_iff_iff]; simp; omega), rfl⟩

theorem within_is {n lo hi : Int} {b : Bool} (w : World) (h : (decide (lo ≤ n) && decide (n ≤ hi)) = b) :
    Calls Try.prog 35 #[.int .i64 n, .int .i64 lo, .int .i64 hi] w fun e w' => e = .returned (.bool b) ∧ w' = w := by
  subst h; exact within_any n lo hi w

/-- What a table says of a profile. -/
def RetFree (l : Prof) (w : World) (e : Ending) (w' : World) : Prop :=
  ∃ fs : List Int, fs.length = 300 ∧ (goodB l = true → ∀ u : Nat, u < 300 → fs.getD u 0 = val l u) ∧ e = .returned (.tuple #[.agg (arr fs), .bool (goodB l)]) ∧ Below w.heap.size w w'

theorem goodB_nil : goodB [] = false := rfl
theorem goodB_head {l : Prof} (h : (l.getD 0 (0, 0)).1 ≠ 0) : goodB l = false := by
  cases l with
  | nil => rfl
  | cons s r =>
    refine goodB_no (k := 0) (by simp) ?_
    rw [ok_zero]; simp at h; simp [h]

theorem ok_nonneg {l : Prof} : ∀ (k : Nat), (∀ j, j < k + 1 → okAt l j = true) → 0 ≤ (l.getD k (0, 0)).1 ∧ (l.getD k (0, 0)).1 < 300 := by
  intro k
  induction k with
  | zero =>
    intro h
    have := h 0 (by omega)
    rw [ok_zero] at this
    simp at this
    simp; omega
  | succ k ih =>
    intro h
    have h1 := ih fun j hj => h j (by omega)
    have := h (k + 1) (by omega)
    rw [ok_succ] at this
    simp only [Bool.and_eq_true, decide_eq_true_eq] at this
    omega

theorem getD_set' (fs : List Int) (i j : Nat) (v : Int) (hi : i < fs.length) : (fs.set i v).getD j 0 = if j = i then v else fs.getD j 0 := by
  simp only [List.getD_eq_getElem?_getD, List.getElem?_set]
  by_cases e : i = j
  · subst e; simp [hi]
  · rw [if_neg e, if_neg (fun h => e h.symm)]

theorem zeros_get (u : Nat) : zeros.getD u 0 = 0 := by
  simp only [zeros, List.getD_eq_getElem?_getD, List.getElem?_replicate]; split <;> rfl

theorem atTo_end {l : Prof} (h : goodB l = true) (u : Nat) (hu : u < 300) : atTo l u l.length = val l u := by
  have := atL_good ((goodB_iff l).1 h) (u : Int)
  rw [if_pos ⟨by omega, by omega⟩] at this
  rw [← this, atTo, List.take_length]; rfl

/-- One more step filled in. -/
def filled (fs : List Int) (x y : Int) (t : Nat) (gs : List Int) : Prop := ∀ u : Nat, u < 300 → gs.getD u 0 = if x ≤ (u : Int) ∧ u < t then y else fs.getD u 0
theorem filled.start (fs : List Int) {x : Int} (y : Int) (h : 0 ≤ x) : filled fs x y x.toNat fs := fun u _ => by rw [if_neg]; omega
theorem filled.next {fs gs : List Int} {x y : Int} {t : Nat} (h : filled fs x y t gs) (hl : gs.length = 300) (ht : t < 300) (hx : x ≤ t) : filled fs x y (t + 1) (gs.set t y) := fun u hu => by
  rw [getD_set' _ _ _ _ (by omega)]
  by_cases e : u = t
  · subst e; rw [if_pos rfl, if_pos ⟨hx, by omega⟩]
  · rw [if_neg e, h u hu]
    by_cases c : x ≤ (u : Int) ∧ u < t
    · rw [if_pos c, if_pos ⟨c.1, by omega⟩]
    · rw [if_neg c, if_neg (by omega)]
end Go.Proofs.Ytifmdkcpbajdcab
