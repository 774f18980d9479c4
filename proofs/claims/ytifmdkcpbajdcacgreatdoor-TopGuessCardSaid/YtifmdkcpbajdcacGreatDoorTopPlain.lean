/- Plain laws behind the statements on desks: who comes, who asks, what is kept. -/
import Derived.Test.YtifmdkcpbajdcacGreatDoorPlain
set_option linter.unusedVariables false
set_option linter.unusedSimpArgs false
namespace Go.Proofs.YtifmdkcpbajdcacGreatDoor.Plain

theorem come_told {p : Port} {a b c : Int} (h : (tellL p ⟨1, a, b, c⟩).2.2 = 0) : tellL p ⟨1, a, b, c⟩ = (p.come ⟨1, a, b, c, 0, p.next⟩, (p.ships.length : Int), 0) := by
  unfold tellL at h ⊢
  split at h
  · rename_i he
    rw [if_pos he]
    split at h
    · rename_i hb
      rw [if_pos hb]
      unfold tell1 at he ⊢
      dsimp only at he ⊢
      rw [if_pos rfl] at he ⊢
      split at he
      · rename_i hr
        rw [if_pos hr]
        split at he
        · simp at he
        · rename_i hf; rw [if_neg hf]
      · simp at he
    · simp at h
  · rename_i he; exact absurd h he

theorem come_good {p : Port} {a b c : Int} (hp : PGood p) (h : (tellL p ⟨1, a, b, c⟩).2.2 = 0) : PGood (p.come ⟨1, a, b, c, 0, p.next⟩) := by
  have := (tell_good (o := ⟨1, a, b, c⟩) hp).1
  rwa [come_told h] at this

theorem guess_ask {p : Port} {a b c : Int} (hp : PGood p) (h : (tellL p ⟨1, a, b, c⟩).2.2 = 0) :
    askL (nextL (tellL p ⟨1, a, b, c⟩).1) (tellL p ⟨1, a, b, c⟩).2.1 = (0, (thePlan (tellL p ⟨1, a, b, c⟩).1).getD (tellL p ⟨1, a, b, c⟩).2.1.toNat (-1)) := by
  have hq := come_good hp h
  rw [come_told h]
  dsimp only
  have hship := come_ship p p.ships.length ⟨1, a, b, c, 0, p.next⟩
  rw [if_pos rfl] at hship
  have hlen : (p.come ⟨1, a, b, c, 0, p.next⟩).ships.length = p.ships.length + 1 := by simp [Port.come]
  obtain ⟨q, hqq⟩ : ∃ q, p.come ⟨1, a, b, c, 0, p.next⟩ = q := ⟨_, rfl⟩
  rw [hqq] at hq hship hlen ⊢
  obtain ⟨n, hn⟩ : ∃ n, p.ships.length = n := ⟨_, rfl⟩
  rw [hn] at hship hlen ⊢
  have hlt : n < q.ships.length := by omega
  have hx := next_ship hlt
  unfold askL
  rw [if_neg (by rw [next_len]; omega), Int.toNat_natCast, hx, (next_plan hq).2.1, notDue_get]
  by_cases hd : isDue q (thePlan q) n = true
  · rw [if_pos hd, if_neg (by simp), if_pos rfl]
    simp only [isDue, Bool.and_eq_true, decide_eq_true_eq] at hd
    rw [hd.1.2]
  · rw [if_neg hd, if_neg hd, hship, if_pos rfl]

theorem come_ahead {p : Port} {a b c : Int} (hp : Settled p) (h : (tellL p ⟨1, a, b, c⟩).2.2 = 0) :
    ∀ i, i < p.ships.length → (p.ship i).state = 1 → (p.ship i).cls ≤ c →
      ((nextL (tellL p ⟨1, a, b, c⟩).1).ship i).state = 1 ∧ (thePlan (nextL (tellL p ⟨1, a, b, c⟩).1)).getD i (-1) = (thePlan p).getD i (-1) := by
  intro i hi hs hc
  have hq := come_good hp.good h
  have ht := come_told h
  have hag := tell_ranks hp.good ht (.inl rfl) (thePlan_is hp.good) (thePlan_is hq) i hi hs
  rw [ht]
  dsimp only at hag ⊢
  have hship := come_ship p p.ships.length ⟨1, a, b, c, 0, p.next⟩
  rw [if_pos rfl] at hship
  have hshi := come_ship p i ⟨1, a, b, c, 0, p.next⟩
  rw [if_neg (by omega)] at hshi
  have hlen : (p.come ⟨1, a, b, c, 0, p.next⟩).ships.length = p.ships.length + 1 := by simp [Port.come]
  have hnow : (p.come ⟨1, a, b, c, 0, p.next⟩).now = p.now := rfl
  rw [if_pos rfl, Int.toNat_natCast, hship] at hag
  have hkey := hag (by
    obtain ⟨_, h2⟩ := hp.good.ship i hi
    have h3 := hp.good.next
    unfold key
    dsimp only
    omega)
  obtain ⟨q, hqq⟩ : ∃ q, p.come ⟨1, a, b, c, 0, p.next⟩ = q := ⟨_, rfl⟩
  rw [hqq] at hq hship hshi hlen hnow hkey ⊢
  have hnd : ¬ isDue q (thePlan q) i = true := fun hd => by
    simp only [isDue, Bool.and_eq_true, decide_eq_true_eq] at hd
    have h1 := hp.none i
    rw [hkey, hd.1.2, hnow] at h1
    exact h1 rfl
  have hx := next_ship (p := q) (i := i) (by omega)
  rw [if_neg hnd] at hx
  rw [hx, hshi, (next_plan hq).2.1, notDue_get, if_neg hnd, ← hkey]
  exact ⟨hs, rfl⟩

theorem keep_free {p : Port} {i : Nat} {a b c : Int} (h4 : p.kept.length = 4) (hi : i < 4) (h0 : (p.keep i).wide = 0) (hb : p.now ≤ b) (u : Int) :
    freeOf (p.setKeep i ⟨a, b, c⟩) u = freeOf p u - (⟨b, c, a⟩ : Item).at u := by
  have hk : ∀ j, (p.setKeep i ⟨a, b, c⟩).keep j = if j = i then ⟨a, b, c⟩ else p.keep j := fun j => set_keep p i j ⟨a, b, c⟩ (by omega)
  have hsum : sumTo (fun j => keptAt ((p.setKeep i ⟨a, b, c⟩).keep j) u) 4 = sumTo (fun j => keptAt (p.keep j) u) 4 + (if b ≤ u ∧ u < c then a else 0) := by
    have e : sumTo (fun j => keptAt ((p.setKeep i ⟨a, b, c⟩).keep j) u) 4 = sumTo (fun j => keptAt (p.keep j) u + (if j = i then (if b ≤ u ∧ u < c then a else 0) else 0)) 4 := by
      refine sumTo_congr 4 fun j hj => ?_
      rw [hk j]
      by_cases e : j = i
      · subst e
        rw [if_pos rfl, if_pos rfl]
        have : keptAt (p.keep j) u = 0 := by unfold keptAt; split <;> simp_all
        rw [this]; unfold keptAt; dsimp only; omega
      · rw [if_neg e, if_neg e]; omega
    rw [e, sumTo_add, sumTo_one, if_pos hi]
  have hs : ∀ j, (p.setKeep i ⟨a, b, c⟩).ship j = p.ship j := fun _ => rfl
  unfold freeOf Item.at
  rw [hsum]
  show 16 - p.shut - (if p.now ≤ u then sumTo (fun j => lieAt (p.ship j) u) p.ships.length + _ else 0) = _
  dsimp only
  by_cases h1 : p.now ≤ u
  · rw [if_pos h1, if_pos h1]; omega
  · rw [if_neg h1, if_neg h1, if_neg (by omega)]; omega

theorem keep_room {p : Port} {a b c : Int} (hp : PGood p) (ha : 1 ≤ a ∧ a ≤ 16) (hb : p.now ≤ b) (hbc : b < c) (hc : c ≤ 300) :
    (tellL p ⟨6, a, b, c⟩).2.2 = match freeKeep p with
      | none => 5
      | some _ => if (takeL (baseL p).1 b c a).2 = true then 0 else 6 := by
  have hn := hp.now
  cases hf : freeKeep p with
  | none =>
    have h1 : tell1 p ⟨6, a, b, c⟩ = (p, 0, 5) := by
      unfold tell1
      simp only [show ¬ ((6 : Int) = 1) by decide, show ¬ ((6 : Int) = 2) by decide, show ¬ ((6 : Int) = 3) by decide, show ¬ ((6 : Int) = 4) by decide, show ¬ ((6 : Int) = 5) by decide, if_false, if_true]
      rw [if_pos ⟨ha, hb, hbc, hc⟩, hf]
    unfold tellL
    rw [h1]; rfl
  | some i =>
    obtain ⟨hi, h0⟩ := free_keep hf
    have h1 : tell1 p ⟨6, a, b, c⟩ = (p.setKeep i ⟨a, b, c⟩, (i : Int), 0) := by
      unfold tell1
      simp only [show ¬ ((6 : Int) = 1) by decide, show ¬ ((6 : Int) = 2) by decide, show ¬ ((6 : Int) = 3) by decide, show ¬ ((6 : Int) = 4) by decide, show ¬ ((6 : Int) = 5) by decide, if_false, if_true]
      rw [if_pos ⟨ha, hb, hbc, hc⟩, hf]
    have hfair : Fair (p.setKeep i ⟨a, b, c⟩) := by
      have := tell1_fair (p := p) (o := ⟨6, a, b, c⟩) hp.toFair (by rw [h1])
      rwa [h1] at this
    have hg := base_good hp.toFair
    obtain ⟨g1, g2⟩ := hg.2 (hg.1.2 hp.room)
    have ht := (takeL_good (x := ⟨b, c, a⟩) g1 ⟨by dsimp only; omega, by dsimp only; omega, hc, by dsimp only; omega, ha.2⟩).1
    have hq := (base_good hfair).1
    have hiff : (baseL (p.setKeep i ⟨a, b, c⟩)).2 = true ↔ (takeL (baseL p).1 b c a).2 = true := by
      rw [hq]
      refine Iff.trans ?_ ht.symm
      refine forall_congr' fun u => forall_congr' fun u0 => forall_congr' fun u1 => ?_
      rw [keep_free hp.four hi h0 hb u, g2 u u0 u1]
    unfold tellL
    rw [h1]
    dsimp only
    rw [if_pos rfl]
    by_cases hb2 : (baseL (p.setKeep i ⟨a, b, c⟩)).2 = true
    · rw [if_pos hb2, if_pos (hiff.1 hb2)]
    · rw [if_neg hb2, if_neg (fun h => hb2 (hiff.2 h))]

theorem keep_range {p : Port} {a b c : Int} (h : ¬ ((1 ≤ a ∧ a ≤ 16) ∧ p.now ≤ b ∧ b < c ∧ c ≤ 300)) : (tellL p ⟨6, a, b, c⟩).2.2 = 2 := by
  have h1 : tell1 p ⟨6, a, b, c⟩ = (p, 0, 2) := by
    unfold tell1
    simp only [show ¬ ((6 : Int) = 1) by decide, show ¬ ((6 : Int) = 2) by decide, show ¬ ((6 : Int) = 3) by decide, show ¬ ((6 : Int) = 4) by decide, show ¬ ((6 : Int) = 5) by decide, if_false, if_true]
    rw [if_neg h]
  unfold tellL
  rw [h1]; rfl

/-- Is all taken that can be kept? -/
theorem keep_full {p : Port} : freeKeep p = none ↔ ∀ i, i < 4 → (p.keep i).wide ≠ 0 := by
  unfold freeKeep
  rw [List.find?_eq_none]
  constructor
  · intro h i hi h0
    exact h i (List.mem_range.2 hi) (by simpa using h0)
  · intro h i hi h0
    exact h i (List.mem_range.1 hi) (by simpa using h0)
end Go.Proofs.YtifmdkcpbajdcacGreatDoor.Plain
