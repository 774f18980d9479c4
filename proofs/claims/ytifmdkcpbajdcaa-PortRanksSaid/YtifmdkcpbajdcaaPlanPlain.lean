/- Plain laws: a plan that is made ship by ship. -/
import Derived.Test.YtifmdkcpbajdcaaRoomPlain
import Derived.Test.YtifmdkcpbajdcaaBasePlain
namespace Go.Proofs.Ytifmdkcpbajdcaa.Plain

def planStep (p : Port) (s : Prof × List Int) (i : Nat) : Prof × List Int :=
  if 0 ≤ fitL s.1 (max 0 p.now) (p.ship i).long (p.ship i).wide then
    ((takeL s.1 (fitL s.1 (max 0 p.now) (p.ship i).long (p.ship i).wide) (fitL s.1 (max 0 p.now) (p.ship i).long (p.ship i).wide + (p.ship i).long) (p.ship i).wide).1,
      s.2.set i (fitL s.1 (max 0 p.now) (p.ship i).long (p.ship i).wide))
  else s

def planAt (p : Port) (r : List Nat) : Nat → Prof × List Int
  | 0 => ((baseL p).1, noneL p.ships.length)
  | k + 1 => planStep p (planAt p r k) (r.getD k 0)

theorem planGo_fold (p : Port) : ∀ (r : List Nat) (b : Prof) (out : List Int), planGo p b out r = (r.foldl (planStep p) (b, out)).2
  | [], _, _ => rfl
  | i :: r, b, out => by
    rw [planGo, List.foldl_cons]
    unfold planStep
    split
    · rw [planGo_fold p r]; rfl
    · rw [planGo_fold p r]; rfl

theorem planAt_fold (p : Port) (r : List Nat) : ∀ k, k ≤ r.length → planAt p r k = (r.take k).foldl (planStep p) ((baseL p).1, noneL p.ships.length)
  | 0, _ => by rw [List.take_zero]; rfl
  | k + 1, h => by
    rw [planAt, planAt_fold p r k (by omega), List.take_succ_eq_append_getElem (show k < r.length by omega), List.foldl_append, List.getD_eq_getElem?_getD, List.getElem?_eq_getElem (show k < r.length by omega)]
    rfl

theorem planAt_all {p : Port} {r : List Nat} (h : (baseL p).2 = true) : (planAt p r r.length).2 = planL p r := by
  unfold planL
  rw [if_pos h, planAt_fold p r r.length (Nat.le_refl _), List.take_length, planGo_fold]

theorem planAt_good {p : Port} (h : PGood p) (r : List Nat) : ∀ k, Good (planAt p r k).1
  | 0 => ((base_good h.toFair).2 ((base_good h.toFair).1.2 h.room)).1
  | k + 1 => by
    have ih := planAt_good h r k
    rw [planAt]
    unfold planStep
    split
    · exact takeL_kept ih
    · exact ih

theorem planAt_len (p : Port) (r : List Nat) : ∀ k, (planAt p r k).2.length = p.ships.length
  | 0 => List.length_replicate
  | k + 1 => by
    have ih := planAt_len p r k
    rw [planAt]
    unfold planStep
    split
    · rw [List.length_set]; exact ih
    · exact ih

theorem planAt_fits {p : Port} (h : PGood p) {l : Prof} (hl : Good l) {i : Nat} (hi : i < p.ships.length) :
    fitL l (max 0 p.now) (p.ship i).long (p.ship i).wide = -1 ∨ (0 ≤ fitL l (max 0 p.now) (p.ship i).long (p.ship i).wide ∧ fitL l (max 0 p.now) (p.ship i).long (p.ship i).wide + (p.ship i).long ≤ 300) := by
  obtain ⟨s, _⟩ := h.ship i hi
  have hw := s.wide
  have hn := h.now
  rcases First.none_or (by omega) (fitL_first (fr := max 0 p.now) (n := (p.ship i).wide) hl (by omega) s.long.1 s.long.2 (by omega)) with e | ⟨_, e, f⟩
  · exact .inl e
  · exact .inr ⟨e, f.1⟩

theorem planStep_no {p : Port} {s : Prof × List Int} {i : Nat} (h : fitL s.1 (max 0 p.now) (p.ship i).long (p.ship i).wide < 0) : planStep p s i = s := by
  unfold planStep; rw [if_neg (by omega)]
theorem planStep_yes {p : Port} {s : Prof × List Int} {i : Nat} {t : Int} (h : fitL s.1 (max 0 p.now) (p.ship i).long (p.ship i).wide = t) (h0 : 0 ≤ t) :
    planStep p s i = ((takeL s.1 t (t + (p.ship i).long) (p.ship i).wide).1, s.2.set i t) := by
  unfold planStep; rw [h, if_pos h0]

/-! The first numbers of a plan. -/

def fillL (n k : Nat) : List Int := List.replicate k (-1) ++ List.replicate (n - k) 0

theorem fill_len {n k : Nat} (h : k ≤ n) : (fillL n k).length = n := by simp [fillL]; omega
theorem fill_zero (n : Nat) : fillL n 0 = List.replicate n 0 := by simp [fillL]
theorem fill_all (n : Nat) : fillL n n = noneL n := by simp [fillL, noneL]
theorem fill_next {n k : Nat} (h : k < n) : (fillL n k).set k (-1) = fillL n (k + 1) := by
  apply List.ext_getElem
  · simp [fillL]; omega
  · intro i h1 h2
    simp only [fillL] at h1 h2 ⊢
    rw [List.getElem_set]
    simp only [List.getElem_append, List.length_replicate, List.getElem_replicate]
    by_cases c : k = i
    · subst c; rw [if_pos rfl, dif_pos (by omega)]
    · rw [if_neg c]
      by_cases d : i < k
      · rw [dif_pos d, dif_pos (by omega)]
      · rw [dif_neg d, dif_neg (by omega)]
end Go.Proofs.Ytifmdkcpbajdcaa.Plain
