/- Walks: does span answer at all? What is taken and given back; the first time. -/
import Derived.Test.YtifmdkcpbajdcaaSpanL1
namespace Go.Proofs.Ytifmdkcpbajdcaa
open Go.RowKit Go.Proofs Plain

theorem spans_take : takeL newL 5 9 4 = ([(0, 16), (5, 12), (9, 16)], true) := by decide +kernel
theorem spans_at : atL [(0, 16), (5, 12), (9, 16)] 7 = 12 := by decide +kernel
theorem spans_fit : fitL [(0, 16), (5, 12), (9, 16)] 0 10 13 = 9 := by decide +kernel

set_option maxHeartbeats 1000000 in
theorem spansKeep_any (w : World) : Calls Try.prog 20 #[] w fun e w' => e = .returned (.bool true) ∧ Below w.heap.size w w' := by
  have HT := Lib.hid spans_take
  have HA := Lib.hid spans_at
  have HF := Lib.hid spans_fit
  have hm : newL.length ≤ maxLen := by unfold maxLen; decide
  have hm3 : [((0 : Int), (16 : Int)), (5, 12), (9, 16)].length ≤ maxLen := by unfold maxLen; decide
  go_enter Try.func20, Try.ntmps20
  go_wp2_with fail
  refine (new_any _).mono ?_
  rintro e w1 ⟨A1, c1, rfl, h1, hb1⟩
  go_wp2_with fail
  refine (take_any newL A1 c1 5 9 4 w1 h1 hm).mono ?_
  rintro e w2 ⟨A2, c2, he, h2, hb2⟩
  rw [HT.out] at he h2
  subst he
  have hz1 := hb1.size
  have hz2 := hb2.size
  go_wp2_with fail
  refine (at_any _ A2 c2 7 w2 h2 hm3).mono ?_
  rintro e w3 ⟨rfl, hb3⟩
  rw [HA.out]
  have hz3 := hb3.size
  go_wp2_with fail
  refine (fit_any _ A2 c2 0 10 13 w3 (h2.below hb3) hm3).mono ?_
  rintro e w4 ⟨rfl, hb4⟩
  rw [HF.out]
  go_wp2_with fail
  go_ret
  exact ⟨rfl, hb1.trans ((hb2.mono hz1).trans ((hb3.mono (by omega)).trans (hb4.mono (by omega))))⟩


set_option maxHeartbeats 1000000 in
theorem spansLaw_any (w : World) : Calls Try.prog 16 #[] w fun e w' => e = .returned (.bool true) ∧ Below w.heap.size w w' := by
  have HT := Lib.hid spans_take
  have HA := Lib.hid spans_at
  have HF := Lib.hid spans_fit
  have hm : newL.length ≤ maxLen := by unfold maxLen; decide
  have hm3 : [((0 : Int), (16 : Int)), (5, 12), (9, 16)].length ≤ maxLen := by unfold maxLen; decide
  go_enter Try.func16, Try.ntmps16
  go_wp2_with fail
  refine (new_any _).mono ?_
  rintro e w1 ⟨A1, c1, rfl, h1, hb1⟩
  go_wp2_with fail
  refine (take_any newL A1 c1 5 9 4 w1 h1 hm).mono ?_
  rintro e w2 ⟨A2, c2, he, h2, hb2⟩
  rw [HT.out] at he h2
  subst he
  have hz1 := hb1.size
  have hz2 := hb2.size
  go_wp2_with fail
  refine (at_any _ A2 c2 7 w2 h2 hm3).mono ?_
  rintro e w3 ⟨rfl, hb3⟩
  rw [HA.out]
  have hz3 := hb3.size
  go_wp2_with fail
  refine (fit_any _ A2 c2 0 10 13 w3 (h2.below hb3) hm3).mono ?_
  rintro e w4 ⟨rfl, hb4⟩
  rw [HF.out]
  go_wp2_with fail
  go_ret
  exact ⟨rfl, hb1.trans ((hb2.mono hz1).trans ((hb3.mono (by omega)).trans (hb4.mono (by omega))))⟩

end Go.Proofs.Ytifmdkcpbajdcaa
