/- Plain laws behind the statements on profiles. -/
import Derived.Test.YtifmdkcpbajdcaaPortPlain
namespace Go.Proofs.Ytifmdkcpbajdcaa.Plain

/-! What is taken and given back. -/

theorem addL_no {l : Prof} {fr to n : Int} (h : (addL l fr to n).2 = false) : (addL l fr to n).1 = l := by
  unfold addL at *
  split at h
  · split at h
    · simp at h
    · rename_i h1 h2; rw [if_pos h1, if_neg h2]
  · rename_i h1; rw [if_neg h1]

theorem takeL_no {l : Prof} {fr to n : Int} (h : (takeL l fr to n).2 = false) : takeL l fr to n = (l, false) := by
  have : (takeL l fr to n).1 = l := by
    unfold takeL at *
    split at h
    · rename_i h1; rw [if_pos h1]; exact addL_no h
    · rename_i h1; rw [if_neg h1]
  exact Prod.ext this h

theorem takeL_yes {l : Prof} {fr to n : Int} (h : (takeL l fr to n).2 = true) : Good l ∧ 0 ≤ fr ∧ fr ≤ to ∧ to ≤ 300 ∧ 0 ≤ n ∧ n ≤ 16 := by
  unfold takeL at h
  split at h
  · rename_i h1
    unfold addL at h
    split at h
    · rename_i h2; exact ⟨(goodB_iff l).1 h2.1, h2.2.1, h2.2.2.1, h2.2.2.2, h1.1, h1.2⟩
    · simp at h
  · simp at h

theorem take_back {l : Prof} {fr to n : Int} (h : (takeL l fr to n).2 = true) :
    Good (takeL l fr to n).1 ∧ giveL (takeL l fr to n).1 fr to n = (l, true) ∧
    ∀ t, 0 ≤ t → t < 300 → atL (takeL l fr to n).1 t = atL l t - (if fr ≤ t ∧ t < to then n else 0) ∧ 0 ≤ atL l t ∧ atL l t ≤ 16 ∧ 0 ≤ atL (takeL l fr to n).1 t ∧ atL (takeL l fr to n).1 t ≤ 16 := by
  obtain ⟨hg, h0, h1, h2, h3, h4⟩ := takeL_yes h
  have e : takeL l fr to n = addL l fr to (-n) := by unfold takeL; rw [if_pos ⟨h3, h4⟩]
  rw [e] at h ⊢
  obtain ⟨a1, a2, _⟩ := addL_good (n := -n) hg h0 h1 h2
  obtain ⟨g1, g2⟩ := a2 h
  refine ⟨g1, ?_, fun t t0 t1 => ?_⟩
  · have e2 : giveL (addL l fr to (-n)).1 fr to n = addL (addL l fr to (-n)).1 fr to n := by unfold giveL; rw [if_pos ⟨h3, h4⟩]
    rw [e2]
    obtain ⟨b1, b2, _⟩ := addL_good (n := n) g1 h0 h1 h2
    have hb : (addL (addL l fr to (-n)).1 fr to n).2 = true := b1.2 fun t t0 t1 => by
      rw [g2 t (by omega) (by omega), if_pos ⟨t0, t1⟩]
      have := val_range hg t; omega
    obtain ⟨k1, k2⟩ := b2 hb
    refine Prod.ext (show _ = l from good_ext k1 hg fun t t0 t1 => ?_) hb
    rw [k2 t t0 t1, g2 t t0 t1]
    split <;> omega
  · rw [atL_good g1, atL_good hg, if_pos ⟨t0, t1⟩, if_pos ⟨t0, t1⟩, g2 t t0 t1]
    have := val_range hg t
    have := val_range g1 t
    rw [g2 t t0 t1] at this
    split at this <;> (rename_i hc; simp only [hc, if_true, if_false, and_self] at *; omega)

end Go.Proofs.Ytifmdkcpbajdcaa.Plain
