/- Plain laws: the ships that wait, put in order. -/
import Derived.Test.YtifmdkcpbajdcaaDeskPlain
namespace Go.Proofs.Ytifmdkcpbajdcaa.Plain

def waitsTo (p : Port) (k : Nat) : List Nat := (List.range k).filter fun i => decide ((p.ship i).state = 1)

theorem waits_yes {p : Port} {k : Nat} (h : (p.ship k).state = 1) : waitsTo p (k + 1) = waitsTo p k ++ [k] := by
  unfold waitsTo; rw [List.range_succ, List.filter_append]; simp [h]
theorem waits_no {p : Port} {k : Nat} (h : (p.ship k).state ≠ 1) : waitsTo p (k + 1) = waitsTo p k := by
  unfold waitsTo; rw [List.range_succ, List.filter_append]; simp [h]
theorem waits_mem (p : Port) (k i : Nat) : i ∈ waitsTo p k ↔ i < k ∧ (p.ship i).state = 1 := by
  unfold waitsTo; rw [List.mem_filter, List.mem_range, decide_eq_true_eq]
theorem waits_len (p : Port) (k : Nat) : (waitsTo p k).length ≤ k := by
  have := List.length_filter_le (fun i => decide ((p.ship i).state = 1)) (List.range k)
  rwa [List.length_range] at this
theorem waits_nodup (p : Port) (k : Nat) : (waitsTo p k).Nodup := List.Pairwise.filter _ List.nodup_range

def cmpI (x y : Int) : Int := if x < y then -1 else if y < x then 1 else 0
def orI (a b : Int) : Int := if a = 0 then b else a
/-- By class, then by the queue. -/
def cfI (s t : Ship) : Int := orI (cmpI s.cls t.cls) (cmpI s.queued t.queued)

theorem cf_lt {p : Port} (h : PGood p) {i j : Nat} (hi : i < p.ships.length) (hj : j < p.ships.length) : cfI (p.ship i) (p.ship j) < 0 ↔ key (p.ship i) < key (p.ship j) := by
  obtain ⟨s1, q1⟩ := h.ship i hi
  obtain ⟨s2, q2⟩ := h.ship j hj
  have c1 := s1.cls; have c2 := s2.cls; have d1 := s1.queued; have d2 := s2.queued
  have := h.next
  unfold cfI orI cmpI key
  repeat' split
  all_goals omega

theorem ranks_of {p : Port} (h : PGood p) {l : List Nat} (hp : l.Perm (waitsTo p p.ships.length)) (hs : l.Pairwise fun a b => key (p.ship a) ≤ key (p.ship b)) : l = rankL p := by
  refine IsRank.unique (p := p) ⟨?_, fun i => ?_⟩ (rankL_is h)
  · have hn : l.Nodup := hp.nodup_iff.2 (waits_nodup p _)
    refine (hs.and hn).imp_of_mem fun {a b} ha hb hab => ?_
    have ha' := (waits_mem p _ a).1 (hp.mem_iff.1 ha)
    have hb' := (waits_mem p _ b).1 (hp.mem_iff.1 hb)
    have hne : key (p.ship a) ≠ key (p.ship b) := fun e => hab.2 (key_inj h ha'.1 hb'.1 e)
    omega
  · rw [hp.mem_iff, waits_mem]

/-! The same over numbers that are ships' by their type. -/

def finsTo (p : Port) : List (Fin p.ships.length) := (List.finRange p.ships.length).filter fun i => decide ((p.ship i.val).state = 1)

theorem fins_val (p : Port) : (finsTo p).map Fin.val = waitsTo p p.ships.length := by
  have hr : (List.finRange p.ships.length).map Fin.val = List.range p.ships.length := by
    apply List.ext_getElem
    · simp
    · intro i h1 h2; simp
  unfold finsTo waitsTo
  rw [← hr, List.filter_map]
  rfl

def cfF (p : Port) (i j : Fin p.ships.length) : Int := cfI (p.ship i.val) (p.ship j.val)

theorem fins_sorted {p : Port} (h : PGood p) (le : Fin p.ships.length → Fin p.ships.length → Bool) (hle : ∀ i j, le i j = !decide (cfF p j i < 0)) :
    ((finsTo p).mergeSort le).map Fin.val = rankL p := by
  have hk : ∀ i j : Fin p.ships.length, le i j = decide (key (p.ship i.val) ≤ key (p.ship j.val)) := fun i j => by
    rw [hle, Bool.eq_iff_iff]
    have := cf_lt h j.2 i.2
    unfold cfF
    simp only [Bool.not_eq_true', decide_eq_false_iff_not, decide_eq_true_eq, this]
    omega
  refine ranks_of h ?_ ?_
  · rw [← fins_val]; exact (List.mergeSort_perm _ _).map _
  · rw [List.pairwise_map]
    refine (List.pairwise_mergeSort (le := le) (fun a b c h1 h2 => ?_) (fun a b => ?_) _).imp fun {a b} hab => ?_
    · rw [hk] at *; simp only [decide_eq_true_eq] at *; omega
    · rw [hk, hk, Bool.or_eq_true, decide_eq_true_eq, decide_eq_true_eq]; omega
    · rw [hk, decide_eq_true_eq] at hab; exact hab
end Go.Proofs.Ytifmdkcpbajdcaa.Plain
