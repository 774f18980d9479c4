/- Words: what is free time by time: the small parts. -/
import Derived.Test.YtifmdkcpbajdcabGreatDoorArr
set_option linter.unusedVariables false
set_option linter.unusedSimpArgs false
namespace Go.Proofs.YtifmdkcpbajdcabGreatDoor
open Go.RowKit Go.Proofs Plain
set_option maxHeartbeats 400000 in
theorem within_any (n lo hi : Int) (w : World) :
    Calls Tryz.prog 41 #[.int .i64 n, .int .i64 lo, .int .i64 hi] w fun e w' => e = .returned (.bool (decide (lo <= n) && decide (n <= hi))) /\ w' = w := by
  by_cases h : lo <= n
  all_goals
    go_enter Tryz.func41, Tryz.ntmps41
    go_wp2_with fail
    go_ret
    exact ⟨rtB (by rw [Bool.eq_iff_iff]; simp; omega), rfl⟩
theorem wI_ {n lo hi : Int} {b : Bool} (w : World) (h : (decide (lo <= n) && decide (n <= hi)) = b) :
    Calls Tryz.prog 41 #[.int .i64 n, .int .i64 lo, .int .i64 hi] w fun e w' => e = .returned (.bool b) /\ w' = w := by
  subst h; exact within_any n lo hi w
theorem getD_set' (fs : List Int) (i j : Nat) (v : Int) (hi : i < fs.length) : (fs.set i v).getD j 0 = if j = i then v else fs.getD j 0 := by
  simp only [List.getD_eq_getElem?_getD, List.getElem?_set]
  by_cases e : i = j
  · subst e; simp [hi]
  · rw [if_neg e, if_neg (fun h => e h.symm)]
def filled (fs : List Int) (x y : Int) (t : Nat) (gs : List Int) : Prop := ∀ u : Nat, u < 300 -> gs.getD u 0 = if x <= (u : Int) /\ u < t then y else fs.getD u 0
theorem filled.start (fs : List Int) {x : Int} (y : Int) (h : 0 <= x) : filled fs x y x.toNat fs := fun u _ => by rw [if_neg]; omega
theorem filled.next {fs gs : List Int} {x y : Int} {t : Nat} (h : filled fs x y t gs) (hl : gs.length = 300) (ht : t < 300) (hx : x <= t) : filled fs x y (t + 1) (gs.set t y) := fun u hu => by
  rw [getD_set' _ _ _ _ (by omega)]
  by_cases e : u = t
  · subst e; rw [if_pos rfl, if_pos ⟨hx, by omega⟩]
  · rw [if_neg e, h u hu]
    by_cases c : x <= (u : Int) /\ u < t
    · rw [if_pos c, if_pos ⟨c.1, by omega⟩]
    · rw [if_neg c, if_neg (by omega)]
end Go.Proofs.YtifmdkcpbajdcabGreatDoor
