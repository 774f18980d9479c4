/- Plain laws: whether a port is one, as a program finds it out. -/
import Derived.Test.YtifmdkcpbajdcaaShipPlain
import Derived.Test.YtifmdkcpbajdcaaDeskPlain
namespace Go.Proofs.Ytifmdkcpbajdcaa.Plain

def seenTo (p : Port) : Nat → List Int
  | 0 => []
  | k + 1 => (p.ship k).queued :: seenTo p k

def shipsTo (p : Port) : Nat → Bool
  | 0 => true
  | k + 1 => shipsTo p k && (shipB (p.ship k) p.now && decide ((p.ship k).queued < p.next) && !decide ((p.ship k).queued ∈ seenTo p k))

def keptB (k : Kept) : Bool := (decide (k.wide = 0) && decide (k.fr = 0) && decide (k.to = 0)) || (inB k.wide 1 16 && decide (0 ≤ k.fr) && decide (k.fr < k.to) && decide (k.to ≤ 300))

def keptTo (p : Port) : Nat → Bool
  | 0 => true
  | k + 1 => keptTo p k && keptB (p.keep k)

def headB (p : Port) : Bool := inB p.now 0 299 && inB p.shut 0 16 && decide (p.ships.length ≤ 14) && inB p.next 0 1048576
def fairB (p : Port) : Bool := headB p && shipsTo p p.ships.length && keptTo p 4
def goodP (p : Port) : Bool := fairB p && (baseL p).2

theorem keptB_iff (k : Kept) : keptB k = true ↔ KeptOk k := by
  unfold keptB KeptOk
  simp only [Bool.or_eq_true, Bool.and_eq_true, decide_eq_true_eq, inB_iff, and_assoc]

theorem seen_mem (p : Port) (q : Int) : ∀ k, q ∈ seenTo p k ↔ ∃ j, j < k ∧ (p.ship j).queued = q
  | 0 => by simp [seenTo]
  | k + 1 => by
    rw [seenTo, List.mem_cons, seen_mem p q k]
    constructor
    · rintro (h | ⟨j, hj, e⟩)
      · exact ⟨k, by omega, h.symm⟩
      · exact ⟨j, by omega, e⟩
    · rintro ⟨j, hj, e⟩
      by_cases c : j = k
      · subst c; exact .inl e.symm
      · exact .inr ⟨j, by omega, e⟩

theorem ships_iff (p : Port) : ∀ k, shipsTo p k = true ↔ ∀ i, i < k → ShipOk (p.ship i) p.now ∧ (p.ship i).queued < p.next ∧ ∀ j, j < i → (p.ship j).queued ≠ (p.ship i).queued
  | 0 => by simp [shipsTo]
  | k + 1 => by
    rw [shipsTo, Bool.and_eq_true, ships_iff p k]
    simp only [Bool.and_eq_true, shipB_iff, decide_eq_true_eq, Bool.not_eq_true', decide_eq_false_iff_not, seen_mem]
    constructor
    · rintro ⟨h, ⟨h1, h2⟩, h3⟩ i hi
      by_cases c : i = k
      · subst c; exact ⟨h1, h2, fun j hj e => h3 ⟨j, hj, e⟩⟩
      · exact h i (by omega)
    · intro h
      obtain ⟨h1, h2, h3⟩ := h k (by omega)
      exact ⟨fun i hi => h i (by omega), ⟨h1, h2⟩, fun ⟨j, hj, e⟩ => h3 j hj e⟩

theorem kept_iff (p : Port) : ∀ k, keptTo p k = true ↔ ∀ i, i < k → KeptOk (p.keep i)
  | 0 => by simp [keptTo]
  | k + 1 => by
    rw [keptTo, Bool.and_eq_true, kept_iff p k, keptB_iff]
    constructor
    · rintro ⟨h, h1⟩ i hi
      by_cases c : i = k
      · subst c; exact h1
      · exact h i (by omega)
    · intro h; exact ⟨fun i hi => h i (by omega), h k (by omega)⟩

theorem head_iff (p : Port) : headB p = true ↔ (0 ≤ p.now ∧ p.now < 300) ∧ (0 ≤ p.shut ∧ p.shut ≤ 16) ∧ p.ships.length ≤ 14 ∧ (0 ≤ p.next ∧ p.next ≤ 1048576) := by
  unfold headB
  simp only [Bool.and_eq_true, inB_iff, decide_eq_true_eq]
  omega

theorem fair_iff {p : Port} (h4 : p.kept.length = 4) : fairB p = true ↔ Fair p := by
  unfold fairB
  rw [Bool.and_eq_true, Bool.and_eq_true, head_iff, ships_iff, kept_iff]
  constructor
  · rintro ⟨⟨⟨h1, h2, h3, h5⟩, hs⟩, hk⟩
    exact { now := h1, shut := h2, len := h3, next := h5, ship := fun i hi => ⟨(hs i hi).1, (hs i hi).2.1⟩, apart := fun i j hij hj => (hs j hj).2.2 i hij, four := h4, kept := hk }
  · intro h
    exact ⟨⟨⟨h.now, h.shut, h.len, h.next⟩, fun i hi => ⟨(h.ship i hi).1, (h.ship i hi).2, fun j hj => h.apart j i hj hi⟩⟩, h.kept⟩

theorem goodP_iff {p : Port} (h4 : p.kept.length = 4) : goodP p = true ↔ PGood p := by
  unfold goodP
  rw [Bool.and_eq_true, fair_iff h4]
  constructor
  · rintro ⟨hf, hb⟩; exact { hf with room := (base_good hf).1.1 hb }
  · intro h; exact ⟨h.toFair, (base_good h.toFair).1.2 h.room⟩

theorem goodP_head {p : Port} (h : headB p = false) : goodP p = false := by simp [goodP, fairB, h]
theorem ships_more {p : Port} {k : Nat} (h : shipsTo p (k + 1) = false) : ∀ n, k < n → shipsTo p n = false
  | 0, hn => by omega
  | n + 1, hn => by
    by_cases c : n = k
    · rw [c]; exact h
    · rw [shipsTo, ships_more h n (by omega)]; rfl
theorem goodP_ship {p : Port} {k : Nat} (hk : k < p.ships.length) (h : shipsTo p (k + 1) = false) : goodP p = false := by
  simp [goodP, fairB, ships_more h _ hk]
theorem kepts_more {p : Port} {k : Nat} (h : keptTo p (k + 1) = false) : ∀ n, k < n → keptTo p n = false
  | 0, hn => by omega
  | n + 1, hn => by
    by_cases c : n = k
    · rw [c]; exact h
    · rw [keptTo, kepts_more h n (by omega)]; rfl
theorem goodP_kept {p : Port} {k : Nat} (hk : k < 4) (h : keptB (p.keep k) = false) : goodP p = false := by
  have : keptTo p (k + 1) = false := by rw [keptTo, h, Bool.and_false]
  simp [goodP, fairB, kepts_more this 4 hk]
theorem ships_bad1 {p : Port} {k : Nat} (h : shipB (p.ship k) p.now = false) : shipsTo p (k + 1) = false := by simp [shipsTo, h]
theorem ships_bad2 {p : Port} {k : Nat} (h : ¬ (p.ship k).queued < p.next) : shipsTo p (k + 1) = false := by simp [shipsTo, h]
theorem ships_bad3 {p : Port} {k : Nat} (h : (p.ship k).queued ∈ seenTo p k) : shipsTo p (k + 1) = false := by simp [shipsTo, h]
theorem ships_next {p : Port} {k : Nat} (h0 : shipsTo p k = true) (h1 : shipB (p.ship k) p.now = true) (h2 : (p.ship k).queued < p.next) (h3 : ¬ (p.ship k).queued ∈ seenTo p k) : shipsTo p (k + 1) = true := by simp [shipsTo, h0, h1, h2, h3]
theorem goodP_end {p : Port} (h0 : headB p = true) (h1 : shipsTo p p.ships.length = true) (h2 : keptTo p 4 = true) : goodP p = (baseL p).2 := by simp [goodP, fairB, h0, h1, h2]
end Go.Proofs.Ytifmdkcpbajdcaa.Plain
