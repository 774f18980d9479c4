/- Plain laws: two ships come to a new desk. -/
import Derived.Test.YtifmdkcpbajdcacGreatDoorPlain
set_option linter.unusedVariables false
set_option linter.unusedSimpArgs false
namespace Go.Proofs.YtifmdkcpbajdcacGreatDoor.Plain

def alS1 : Txt := [99, 111, 109, 101, 32, 49, 54, 32, 57, 32, 48]
def alS2 : Txt := [99, 111, 109, 101, 32, 49, 32, 57, 32, 48]
theorem al_numOf1 : numOf [49, 54] = some 16 := (numOf_iff _ _).2 ⟨by simp [Lib.itoa, Lib.decDigits], by decide⟩
theorem al_numOf2 : numOf [57] = some 9 := (numOf_iff _ _).2 ⟨by simp [Lib.itoa, Lib.decDigits], by decide⟩
theorem al_numOf3 : numOf [48] = some 0 := (numOf_iff _ _).2 ⟨by simp [Lib.itoa, Lib.decDigits], by decide⟩
theorem al_numOf4 : numOf [49] = some 1 := (numOf_iff _ _).2 ⟨by simp [Lib.itoa, Lib.decDigits], by decide⟩
theorem al_toks1 : toks alS1 = [[99, 111, 109, 101], [49, 54], [57], [48]] := by decide
theorem al_toks2 : toks alS2 = [[99, 111, 109, 101], [49], [57], [48]] := by decide
theorem al_parse1 : parseL alS1 = some ⟨1, 16, 9, 0⟩ := by
  unfold parseL
  rw [if_neg (by decide), al_toks1]
  unfold parseT
  dsimp only
  rw [if_pos (by decide)]
  simp only [numsOf, al_numOf1, al_numOf2, al_numOf3]
  rfl
theorem al_parse2 : parseL alS2 = some ⟨1, 1, 9, 0⟩ := by
  unfold parseL
  rw [if_neg (by decide), al_toks2]
  unfold parseT
  dsimp only
  rw [if_pos (by decide)]
  simp only [numsOf, al_numOf4, al_numOf2, al_numOf3]
  rfl

def alA : Port := Port.zero.come ⟨1, 16, 9, 0, 0, 0⟩
def alB : Port := { alA with ships := [⟨3, 16, 9, 0, 0, 0⟩] }
def alC : Port := alB.come ⟨1, 1, 9, 0, 0, 1⟩

theorem al_tell1 : tellL Port.zero ⟨1, 16, 9, 0⟩ = (alA, 0, 0) := by
  unfold tellL
  rw [show tell1 Port.zero ⟨1, 16, 9, 0⟩ = (alA, 0, 0) from rfl]
  simp only [show (baseL alA).2 = true by decide +kernel, if_true]
theorem al_goodA : PGood alA := by
  have := (tell_good (o := ⟨1, 16, 9, 0⟩) zero_good).1
  rwa [al_tell1] at this
theorem al_rankA : IsRank alA [0] := by
  refine ⟨List.pairwise_singleton _ _, fun i => ?_⟩
  rw [List.mem_singleton]
  constructor
  · rintro rfl; exact ⟨by decide, rfl⟩
  · intro h; have : i < 1 := h.1; omega
theorem al_planA : thePlan alA = [0] := by rw [← planL_the al_goodA al_rankA]; decide +kernel
theorem al_next1 : nextL alA = alB := by unfold nextL; rw [al_planA]; rfl
theorem al_goodB : PGood alB := by have := (next_plan al_goodA).1; rwa [al_next1] at this
theorem al_tell2 : tellL alB ⟨1, 1, 9, 0⟩ = (alC, 1, 0) := by
  unfold tellL
  rw [show tell1 alB ⟨1, 1, 9, 0⟩ = (alC, 1, 0) from rfl]
  simp only [show (baseL alC).2 = true by decide +kernel, if_true]
theorem al_goodC : PGood alC := by
  have := (tell_good (o := ⟨1, 1, 9, 0⟩) al_goodB).1
  rwa [al_tell2] at this
theorem al_rankC : IsRank alC [1] := by
  refine ⟨List.pairwise_singleton _ _, fun i => ?_⟩
  rw [List.mem_singleton]
  constructor
  · rintro rfl; exact ⟨by decide, rfl⟩
  · intro h
    have h1 : i < 2 := h.1
    have h2 := h.2
    rcases (by omega : i = 0 ∨ i = 1) with rfl | rfl
    · exact absurd h2 (by decide)
    · rfl
theorem al_planC : thePlan alC = [-1, 9] := by rw [← planL_the al_goodC al_rankC]; decide +kernel
theorem al_next2 : nextL alC = alC := by unfold nextL; rw [al_planC]; rfl

theorem al_told1 : tellD Desk.new alS1 = (⟨alB, none, 1⟩, 0, 0) := by
  unfold tellD
  rw [if_neg (by decide), al_parse1]
  dsimp only [Desk.new, actL]
  simp only [al_tell1, al_next1]
  rfl
theorem al_told2 : tellD ⟨alB, none, 1⟩ alS2 = (⟨alC, none, 2⟩, 0, 1) := by
  unfold tellD
  rw [if_neg (by decide), al_parse2]
  dsimp only [actL]
  simp only [al_tell2, al_next2]
  rfl
end Go.Proofs.YtifmdkcpbajdcacGreatDoor.Plain
