/- Words: an order printed, and told as a line. -/
import Derived.Test.YtifmdkcpbajdcacGreatDoorTold
import Derived.Test.YtifmdkcpbajdcacGreatDoorTopPlain
import Derived.Test.YtifmdkcpbajdcacGreatDoorPrint
set_option linter.unusedVariables false
set_option linter.unusedSimpArgs false
namespace Go.Proofs.YtifmdkcpbajdcacGreatDoor
open Go.RowKit Go.Proofs Plain

theorem printed {o : Order} (h : goodO o = true) : (bs (printL o)).size ≤ maxLen ∧ parseL (bs (printL o)).data.toList = some o := by
  refine ⟨?_, by rw [bs_list]; exact parse_print h⟩
  have := print_len h
  show (printL o).length ≤ maxLen
  unfold maxLen; omega
theorem lim_wf {k : Int} {a b c : Int} (hk : k = 1 ∨ k = 6 ∨ k = 13 ∨ k = 14) (ha : i64 a) (hb : i64 b) (hc : i64 c) : OrdWf ⟨k, a, b, c⟩ := by
  unfold i64 at ha hb hc
  exact ⟨by dsimp only; omega, ha, hb, hc⟩
theorem good_three (k : Int) (a b c : Int) (hk : k = 1 ∨ k = 6 ∨ k = 13) : goodO ⟨k, a, b, c⟩ = (inLim a && inLim b && inLim c) := by
  rcases hk with rfl | rfl | rfl <;> simp [goodO, countsL]

/-- What Print answers to a good order. -/
def RetLn (o : Order) (w : World) (e : Ending) (w' : World) : Prop := e = .returned (.tuple #[.string (bs (printL o)), .int .i64 0]) ∧ Below w.heap.size w w'
theorem print_good {Bt : Nat} {o : Order} {w : World} (hw : OrdWf o) (hL : LineAt Bt w) (h : goodO o = true) : Calls Tryz.prog 21 #[.agg #[.int .i64 o.kind, .int .i64 o.a, .int .i64 o.b, .int .i64 o.c]] w (RetLn o w) := by
  refine (print_any Bt o w hw hL).mono ?_
  rintro e w' ⟨z, rfl, rfl, hb⟩
  rw [if_pos h, if_pos h]
  exact ⟨rfl, hb⟩
/-- What Print answers to another one. -/
def RetNoLn (w : World) (e : Ending) (w' : World) : Prop := e = .returned (.tuple #[.string ByteArray.empty, .int .i64 1]) ∧ Below w.heap.size w w'
theorem print_bad {Bt : Nat} {o : Order} {w : World} (hw : OrdWf o) (hL : LineAt Bt w) (h : ¬ goodO o = true) : Calls Tryz.prog 21 #[.agg #[.int .i64 o.kind, .int .i64 o.a, .int .i64 o.b, .int .i64 o.c]] w (RetNoLn w) := by
  refine (print_any Bt o w hw hL).mono ?_
  rintro e w' ⟨z, rfl, rfl, hb⟩
  rw [if_neg h, if_neg h]
  exact ⟨rfl, hb⟩
theorem eq_reply (a b : Int) (w : World) : (Op.equalIn 10000 29 (.agg #[.int .i64 a, .int .i64 b]) (.agg #[.int .i64 a, .int .i64 b])).run Tryz.prog w = .ok true w := by simp [go_sem]
end Go.Proofs.YtifmdkcpbajdcacGreatDoor
