/- Walks: what telling makes of a good port, for the orders about one that waits; who is ahead. -/
import Derived.Test.YtifmdkcpbajdcabTellS
import Derived.Test.YtifmdkcpbajdcabTellC2
namespace Go.Proofs.Ytifmdkcpbajdcab
open Go.RowKit Go.Proofs Plain

theorem tellOk_ranks {p : Port} (hg : PGood p) {o : Order} (hk : o.kind = 1 ∨ o.kind = 2 ∨ o.kind = 3 ∨ o.kind = 5) : TellOk p o := by
  obtain ⟨kd, a, b, d⟩ := o
  dsimp only at hk
  intro A c g base w hP ho hog hb hw
  rcases hk with rfl | rfl | rfl | rfl
  · exact tell_come_any p A c g base a b d w hP ho hog hb hw hg.toFair
  · exact tell_leave p A c g base a b d w hP ho hog hb hw hg.len
  · exact tell_hold p A c g base a b d w hP ho hog hb hw hg.len
  · exact tell_change p A c g base a b d w hP ho hog hb hw hg.len hg.toFair

theorem ahead_key {p q : Port} (hp : PGood p) (hq : PGood q) {i j : Nat} (hi : i < p.ships.length) (hj : j < q.ships.length) :
    ((p.ship i).cls < (q.ship j).cls ∨ ((p.ship i).cls = (q.ship j).cls ∧ (p.ship i).queued < (q.ship j).queued)) ↔ key (p.ship i) < key (q.ship j) := by
  obtain ⟨s1, q1⟩ := hp.ship i hi
  obtain ⟨s2, q2⟩ := hq.ship j hj
  have c1 := s1.cls; have c2 := s2.cls; have d1 := s1.queued; have d2 := s2.queued
  have := hp.next; have := hq.next
  unfold key
  omega

theorem tell_ok_good {p q : Port} {o : Order} {n : Int} (h : PGood p) (ht : tellL p o = (q, n, 0)) : PGood q := by
  have := (tell_good (o := o) h).1; rw [ht] at this; exact this

/-- What is known when an order about one that waits has been told. -/
theorem told {p q : Port} {o : Order} {n : Int} (h : PGood p) (hk : o.kind = 1 ∨ o.kind = 2 ∨ o.kind = 3 ∨ o.kind = 5) (ht : tellL p o = (q, n, 0)) :
    p.ships.length ≤ q.ships.length ∧ q.ships.length ≤ p.ships.length + 1 ∧ (o.kind = 1 → n = p.ships.length ∧ q.ships.length = p.ships.length + 1) ∧ (o.kind ≠ 1 → 0 ≤ o.a ∧ o.a.toNat < p.ships.length ∧ q.ships.length = p.ships.length) := by
  unfold tellL at ht
  split at ht
  · rename_i he
    split at ht
    · unfold tell1 at ht he
      rcases hk with h1 | h1 | h1 | h1
      · simp only [h1, if_true] at ht he
        split at ht
        · rename_i hr
          rw [if_pos hr] at he
          split at ht
          · rename_i hf; rw [if_pos hf] at he; simp at he
          · simp only [Prod.mk.injEq, and_true] at ht
            obtain ⟨rfl, rfl⟩ := ht
            refine ⟨by simp [Port.come], by simp [Port.come], fun _ => ⟨rfl, by simp [Port.come]⟩, fun hh => absurd h1 hh⟩
        · rename_i hr; rw [if_neg hr] at he; simp at he
      · simp only [h1, if_true, show ¬ ((2 : Int) = 1) by decide, if_false] at ht he
        split at ht
        · rename_i hs
          obtain ⟨s1, s2, _⟩ := shipE_ok hs
          simp only [Prod.mk.injEq, and_true] at ht
          obtain ⟨rfl, rfl⟩ := ht
          refine ⟨by simp [Port.setShip], by simp [Port.setShip], fun hh => by omega, fun _ => ⟨s1, s2, by simp [Port.setShip]⟩⟩
        · rename_i hs; rw [if_neg hs] at he; exact absurd he hs
      · simp only [h1, if_true, show ¬ ((3 : Int) = 1) by decide, show ¬ ((3 : Int) = 2) by decide, if_false] at ht he
        split at ht
        · rename_i hs
          obtain ⟨s1, s2, _⟩ := shipE_ok hs
          simp only [Prod.mk.injEq, and_true] at ht
          obtain ⟨rfl, rfl⟩ := ht
          refine ⟨by simp [Port.setShip], by simp [Port.setShip], fun hh => by omega, fun _ => ⟨s1, s2, by simp [Port.setShip]⟩⟩
        · rename_i hs; rw [if_neg hs] at he; exact absurd he hs
      · simp only [h1, if_true, show ¬ ((5 : Int) = 1) by decide, show ¬ ((5 : Int) = 2) by decide, show ¬ ((5 : Int) = 3) by decide, show ¬ ((5 : Int) = 4) by decide, if_false] at ht he
        split at ht
        · rename_i hs
          rw [if_pos hs] at he
          obtain ⟨s1, s2, _⟩ := shipE_ok hs
          split at ht
          · rename_i hr; rw [if_pos hr] at he; simp at he
          · simp only [Prod.mk.injEq, and_true] at ht
            obtain ⟨rfl, rfl⟩ := ht
            refine ⟨by simp [Port.setShip], by simp [Port.setShip], fun hh => by omega, fun _ => ⟨s1, s2, by simp [Port.setShip]⟩⟩
        · rename_i hs; rw [if_neg hs] at he; exact absurd he hs
    · simp at ht
  · rename_i he; simp only [Prod.mk.injEq] at ht; exact absurd ht.2.2 he
end Go.Proofs.Ytifmdkcpbajdcab
