/- Words: what comes of an order, told as a line. -/
import Derived.Test.YtifmdkcpbajdcabGreatDoorTwoW
set_option linter.unusedVariables false
set_option linter.unusedSimpArgs false
namespace Go.Proofs.YtifmdkcpbajdcabGreatDoor
open Go.RowKit Go.Proofs Plain

/-- What comes of an order, told as a line. -/
theorem tell_line {d : Desk} {o : Order} {s : Txt} (ha : d.acts < 250) (hp : parseL s = some o) : tellD d s = (⟨(actL d.p d.was o).1, (actL d.p d.was o).2.1, d.acts + 1⟩, (actL d.p d.was o).2.2) := by
  unfold tellD; rw [if_neg (by omega), hp]
theorem act_guess (p : Port) (was : Option Port) (a b c : Int) : actL p was ⟨13, a, b, c⟩ = (p, was, (tellL p ⟨1, a, b, c⟩).2.2, if (tellL p ⟨1, a, b, c⟩).2.2 ≠ 0 then 0 else (thePlan (tellL p ⟨1, a, b, c⟩).1).getD (tellL p ⟨1, a, b, c⟩).2.1.toNat (-1)) := by
  unfold actL
  simp only [show ¬ ((13 : Int) = 9) by decide, show ¬ ((13 : Int) = 10) by decide, show ¬ ((13 : Int) = 11) by decide, show ¬ ((13 : Int) = 12) by decide, if_false, if_true]
  by_cases h : (tellL p ⟨1, a, b, c⟩).2.2 ≠ 0
  · rw [if_pos h, if_pos h]
  · rw [if_neg h, if_neg h, show (tellL p ⟨1, a, b, c⟩).2.2 = 0 by simpa using h]
theorem act_one (p : Port) (was : Option Port) (k a b c : Int) (h1 : 1 ≤ k) (h8 : k ≤ 8) : actL p was ⟨k, a, b, c⟩ = if (tellL p ⟨k, a, b, c⟩).2.2 ≠ 0 then (p, was, (tellL p ⟨k, a, b, c⟩).2.2, 0) else (nextL (tellL p ⟨k, a, b, c⟩).1, was, 0, (tellL p ⟨k, a, b, c⟩).2.1) := by
  unfold actL
  dsimp only
  rw [if_neg (by omega), if_neg (by omega), if_neg (by omega), if_neg (by omega), if_neg (by omega), if_neg (by omega)]
theorem act_ask (p : Port) (was : Option Port) (a b c : Int) : actL p was ⟨14, a, b, c⟩ = (p, was, askL p a) := by
  unfold actL
  simp only [show ¬ ((14 : Int) = 9) by decide, show ¬ ((14 : Int) = 10) by decide, show ¬ ((14 : Int) = 11) by decide, show ¬ ((14 : Int) = 12) by decide, show ¬ ((14 : Int) = 13) by decide, if_false, if_true]
end Go.Proofs.YtifmdkcpbajdcabGreatDoor
