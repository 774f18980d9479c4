/- Plain laws: a first ship comes to an empty port. -/
import Derived.Test.YtifmdkcpbajdcaaDeskPlain
namespace Go.Proofs.Ytifmdkcpbajdcaa.Plain

def oneO : Order := ⟨1, 4, 9, 0⟩
def oneP : Port := Port.zero.come ⟨1, 4, 9, 0, 0, 0⟩

theorem one_tell1 : tell1 Port.zero oneO = (oneP, 0, 0) := rfl
theorem one_base : (baseL oneP).2 = true := by decide +kernel
theorem one_tell : tellL Port.zero oneO = (oneP, 0, 0) := by
  unfold tellL
  rw [one_tell1]
  simp only [one_base, if_true]
theorem one_good : PGood oneP := by
  have := (tell_good (o := oneO) zero_good).1
  rwa [one_tell] at this
theorem one_rank : IsRank oneP [0] := by
  refine ⟨List.pairwise_singleton _ _, fun i => ?_⟩
  rw [List.mem_singleton]
  constructor
  · rintro rfl; exact ⟨by decide, rfl⟩
  · intro h; have : i < 1 := h.1; omega
theorem one_planL : planL oneP [0] = [0] := by decide +kernel
theorem one_plan : thePlan oneP = [0] := by rw [← planL_the one_good one_rank, one_planL]
theorem one_goodP : PGood oneP ∧ oneP.ships.length = 1 ∧ thePlan oneP = [0] := ⟨one_good, rfl, one_plan⟩
end Go.Proofs.Ytifmdkcpbajdcaa.Plain
