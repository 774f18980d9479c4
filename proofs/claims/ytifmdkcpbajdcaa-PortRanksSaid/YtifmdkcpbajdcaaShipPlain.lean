/- Plain laws: whether a ship may be one. -/
import Derived.Test.YtifmdkcpbajdcaaPortPlain
namespace Go.Proofs.Ytifmdkcpbajdcaa.Plain

def inB (n lo hi : Int) : Bool := decide (lo ≤ n) && decide (n ≤ hi)

theorem inB_iff (n lo hi : Int) : inB n lo hi = true ↔ lo ≤ n ∧ n ≤ hi := by simp [inB]
theorem inB_no (n lo hi : Int) : inB n lo hi = false ↔ ¬ (lo ≤ n ∧ n ≤ hi) := by rw [← inB_iff, Bool.not_eq_true]

def shipB (s : Ship) (now : Int) : Bool :=
  inB s.state 1 4 && inB s.wide 1 16 && inB s.long 1 300 && inB s.cls 0 3 && decide (0 ≤ s.queued) &&
  (if s.state = 3 then decide (0 ≤ s.since) && decide (s.since ≤ now) && decide (now < s.since + s.long) && decide (s.since + s.long ≤ 300) else decide (s.since = 0))

theorem shipB_iff (s : Ship) (now : Int) : shipB s now = true ↔ ShipOk s now := by
  unfold shipB
  simp only [Bool.and_eq_true, inB_iff, decide_eq_true_eq]
  constructor
  · rintro ⟨⟨⟨⟨⟨h1, h2⟩, h3⟩, h4⟩, h5⟩, h6⟩
    refine ⟨h1, h2, h3, h4, h5, fun h => ?_, fun h => ?_⟩
    · rw [if_pos h] at h6; simp only [Bool.and_eq_true, decide_eq_true_eq] at h6; omega
    · rw [if_neg h] at h6; simpa using h6
  · intro h
    refine ⟨⟨⟨⟨⟨h.state, h.wide⟩, h.long⟩, h.cls⟩, h.queued⟩, ?_⟩
    by_cases c : s.state = 3
    · rw [if_pos c]; have := h.lies c; simp only [Bool.and_eq_true, decide_eq_true_eq]; omega
    · rw [if_neg c]; simpa using h.other c

theorem ship_no1 {s : Ship} {now : Int} (h : inB s.state 1 4 = false) : shipB s now = false := by simp [shipB, h]
theorem ship_no2 {s : Ship} {now : Int} (h : inB s.wide 1 16 = false) : shipB s now = false := by simp [shipB, h]
theorem ship_no3 {s : Ship} {now : Int} (h : inB s.long 1 300 = false) : shipB s now = false := by simp [shipB, h]
theorem ship_no4 {s : Ship} {now : Int} (h : inB s.cls 0 3 = false) : shipB s now = false := by simp [shipB, h]
theorem ship_no5 {s : Ship} {now : Int} (h : s.queued < 0) : shipB s now = false := by
  have : decide (0 ≤ s.queued) = false := by simp; omega
  simp [shipB, this]
theorem ship_still {s : Ship} {now : Int} (h1 : inB s.state 1 4 = true) (h2 : inB s.wide 1 16 = true) (h3 : inB s.long 1 300 = true) (h4 : inB s.cls 0 3 = true) (h5 : 0 ≤ s.queued) (h : s.state ≠ 3) : shipB s now = decide (s.since = 0) := by
  simp [shipB, h1, h2, h3, h4, h5, h]
theorem ship_lies {s : Ship} {now : Int} (h1 : inB s.state 1 4 = true) (h2 : inB s.wide 1 16 = true) (h3 : inB s.long 1 300 = true) (h4 : inB s.cls 0 3 = true) (h5 : 0 ≤ s.queued) (h : s.state = 3) :
    shipB s now = (decide (0 ≤ s.since) && decide (s.since ≤ now) && decide (now < s.since + s.long) && decide (s.since + s.long ≤ 300)) := by
  unfold shipB; rw [h1, h2, h3, h4, if_pos h, decide_eq_true h5]; simp
theorem ship_late {s : Ship} {now : Int} (h : s.state = 3) (h0 : ¬ (0 ≤ s.since ∧ s.since ≤ now ∧ now < s.since + s.long ∧ s.since + s.long ≤ 300)) : shipB s now = false := by
  rw [← Bool.not_eq_true, shipB_iff]
  intro hs; have := hs.lies h; omega
end Go.Proofs.Ytifmdkcpbajdcaa.Plain
