/- Plain laws: orders to a port keep it good, and move nobody who is ahead of whom they mean. -/
import Derived.Test.YtifmdkcpbajdcaaTurnPlain
namespace Go.Proofs.Ytifmdkcpbajdcaa.Plain

structure Order where
  kind : Int
  a : Int
  b : Int
  c : Int

def Port.setShip (p : Port) (i : Nat) (s : Ship) : Port := { p with ships := p.ships.set i s }
def Port.setKeep (p : Port) (i : Nat) (k : Kept) : Port := { p with kept := p.kept.set i k }
def Port.come (p : Port) (s : Ship) : Port := { p with ships := p.ships ++ [s], next := p.next + 1 }

/-- The ship that is meant: 0: it is there, in one of these states; else why not. -/
def shipE (p : Port) (n : Int) (xs : List Int) : Int :=
  if n < 0 ∨ (p.ships.length : Int) ≤ n then 3 else if (p.ship n.toNat).state ∈ xs then 0 else 4

def freeKeep (p : Port) : Option Nat := (List.range 4).find? fun i => decide ((p.keep i).wide = 0)

def tell1 (p : Port) (o : Order) : Port × Int × Int :=
  if o.kind = 1 then
    if (1 ≤ o.a ∧ o.a ≤ 16) ∧ (1 ≤ o.b ∧ o.b ≤ 300) ∧ (0 ≤ o.c ∧ o.c ≤ 3) then
      if 14 ≤ p.ships.length ∨ 1048576 ≤ p.next then (p, 0, 5)
      else (p.come ⟨1, o.a, o.b, o.c, 0, p.next⟩, p.ships.length, 0)
    else (p, 0, 2)
  else if o.kind = 2 then
    if shipE p o.a [1, 2, 3] = 0 then (p.setShip o.a.toNat { p.ship o.a.toNat with state := 4, since := 0 }, 0, 0) else (p, 0, shipE p o.a [1, 2, 3])
  else if o.kind = 3 then
    if shipE p o.a [1] = 0 then (p.setShip o.a.toNat { p.ship o.a.toNat with state := 2 }, 0, 0) else (p, 0, shipE p o.a [1])
  else if o.kind = 4 then
    if shipE p o.a [2] = 0 then (p.setShip o.a.toNat { p.ship o.a.toNat with state := 1 }, 0, 0) else (p, 0, shipE p o.a [2])
  else if o.kind = 5 then
    if shipE p o.a [1, 2, 3] = 0 then
      if ¬ (1 ≤ o.b ∧ o.b ≤ 300) ∨ ((p.ship o.a.toNat).state = 3 ∧ ((p.ship o.a.toNat).since + o.b ≤ p.now ∨ 300 < (p.ship o.a.toNat).since + o.b)) then (p, 0, 2)
      else (p.setShip o.a.toNat { p.ship o.a.toNat with long := o.b }, 0, 0)
    else (p, 0, shipE p o.a [1, 2, 3])
  else if o.kind = 6 then
    if (1 ≤ o.a ∧ o.a ≤ 16) ∧ p.now ≤ o.b ∧ o.b < o.c ∧ o.c ≤ 300 then
      match freeKeep p with
      | some i => (p.setKeep i ⟨o.a, o.b, o.c⟩, i, 0)
      | none => (p, 0, 5)
    else (p, 0, 2)
  else if o.kind = 7 then
    if 0 ≤ o.a ∧ o.a < 4 ∧ (p.keep o.a.toNat).wide ≠ 0 then (p.setKeep o.a.toNat Kept.zero, 0, 0) else (p, 0, 3)
  else if o.kind = 8 then
    if 0 ≤ o.a ∧ o.a ≤ 16 then ({ p with shut := o.a }, 0, 0) else (p, 0, 2)
  else (p, 0, 1)

/-- What an order makes of a good port. -/
def tellL (p : Port) (o : Order) : Port × Int × Int :=
  if (tell1 p o).2.2 = 0 then
    if (baseL (tell1 p o).1).2 = true then tell1 p o else (p, 0, 6)
  else (p, 0, (tell1 p o).2.2)

theorem set_ship (p : Port) (i j : Nat) (s : Ship) (h : i < p.ships.length) : (p.setShip i s).ship j = if j = i then s else p.ship j := by
  simp only [Port.setShip, Port.ship, List.getD_eq_getElem?_getD, List.getElem?_set]
  by_cases e : i = j
  · subst e; simp [h]
  · rw [if_neg e, if_neg (fun h => e h.symm)]

theorem set_keep (p : Port) (i j : Nat) (s : Kept) (h : i < p.kept.length) : (p.setKeep i s).keep j = if j = i then s else p.keep j := by
  simp only [Port.setKeep, Port.keep, List.getD_eq_getElem?_getD, List.getElem?_set]
  by_cases e : i = j
  · subst e; simp [h]
  · rw [if_neg e, if_neg (fun h => e h.symm)]

theorem come_ship (p : Port) (j : Nat) (s : Ship) : (p.come s).ship j = if j = p.ships.length then s else p.ship j := by
  simp only [Port.come, Port.ship, List.getD_eq_getElem?_getD, List.getElem?_append]
  by_cases h : j < p.ships.length
  · rw [if_pos h, if_neg (by omega)]
  · rw [if_neg h]
    by_cases e : j = p.ships.length
    · subst e; simp
    · rw [if_neg e, List.getElem?_eq_none (by simp; omega), List.getElem?_eq_none (by omega)]

theorem ship_none {p : Port} {j : Nat} (h : p.ships.length ≤ j) : p.ship j = Ship.zero := by
  simp only [Port.ship, List.getD_eq_getElem?_getD]; rw [List.getElem?_eq_none h]; rfl

theorem set_fair {p : Port} {i : Nat} {s : Ship} (h : Fair p) (hi : i < p.ships.length) (hs : ShipOk s p.now) (hq : s.queued = (p.ship i).queued) : Fair (p.setShip i s) := by
  have hl : (p.setShip i s).ships.length = p.ships.length := by simp [Port.setShip]
  refine { now := h.now, shut := h.shut, len := by rw [hl]; exact h.len, next := h.next, ship := fun j hj => ?_, apart := fun j k hjk hk => ?_, four := h.four, kept := h.kept }
  · rw [hl] at hj
    rw [set_ship p i j s hi]
    split
    · exact ⟨hs, by rw [hq]; exact (h.ship i hi).2⟩
    · exact h.ship j hj
  · rw [hl] at hk
    rw [set_ship p i j s hi, set_ship p i k s hi]
    have := h.apart j k hjk hk
    split
    · rename_i e
      subst e
      rw [if_neg (by omega), hq]; exact this
    · split
      · rename_i e
        subst e
        rw [hq]; exact this
      · exact this

theorem keep_fair {p : Port} {i : Nat} {k : Kept} (h : Fair p) (hi : i < 4) (hk : KeptOk k) : Fair (p.setKeep i k) := by
  refine { now := h.now, shut := h.shut, len := h.len, next := h.next, ship := h.ship, apart := h.apart, four := by simp [Port.setKeep, h.four], kept := fun j hj => ?_ }
  rw [set_keep p i j k (by rw [h.four]; exact hi)]
  split
  · exact hk
  · exact h.kept j hj

theorem come_fair {p : Port} {s : Ship} (h : Fair p) (hl : p.ships.length < 14) (hn : p.next < 1048576) (hs : ShipOk s p.now) (hq : s.queued = p.next) : Fair (p.come s) := by
  have hle : (p.come s).ships.length = p.ships.length + 1 := by simp [Port.come]
  have hx := h.next
  refine { now := h.now, shut := h.shut, len := by rw [hle]; omega, next := ⟨by show 0 ≤ p.next + 1; omega, by show p.next + 1 ≤ 1048576; omega⟩, ship := fun j hj => ?_, apart := fun j k hjk hk => ?_, four := h.four, kept := h.kept }
  · rw [come_ship]
    split
    · exact ⟨hs, by rw [hq]; show p.next < p.next + 1; omega⟩
    · obtain ⟨a, b⟩ := h.ship j (by omega)
      exact ⟨a, by show _ < p.next + 1; omega⟩
  · rw [come_ship, come_ship, if_neg (by omega)]
    have := (h.ship j (by omega)).2
    split
    · rw [hq]; omega
    · exact h.apart j k hjk (by omega)

theorem shipE_ok {p : Port} {n : Int} {xs : List Int} (h : shipE p n xs = 0) : 0 ≤ n ∧ n.toNat < p.ships.length ∧ (p.ship n.toNat).state ∈ xs := by
  unfold shipE at h
  split at h
  · simp at h
  · rename_i h1
    split at h
    · exact ⟨by omega, by omega, by assumption⟩
    · simp at h

theorem free_keep {p : Port} {i : Nat} (h : freeKeep p = some i) : i < 4 ∧ (p.keep i).wide = 0 := by
  have h1 := List.find?_some h
  have h2 := List.mem_of_find?_eq_some h
  exact ⟨by simpa using h2, by simpa using h1⟩

theorem tell1_fair {p : Port} {o : Order} (h : Fair p) (he : (tell1 p o).2.2 = 0) : Fair (tell1 p o).1 := by
  unfold tell1 at he ⊢
  split at he
  · rename_i h1
    rw [if_pos h1]
    split at he
    · rename_i h2
      rw [if_pos h2]
      split at he
      · simp at he
      · rename_i h3
        rw [if_neg h3]
        refine come_fair h (by omega) (by omega) ⟨by simp, h2.1, h2.2.1, h2.2.2, h.next.1, fun h => by simp at h, fun _ => rfl⟩ rfl
    · simp at he
  · rename_i h1
    rw [if_neg h1]
    split at he
    · rename_i h2
      rw [if_pos h2]
      split at he
      · rename_i h3
        rw [if_pos h3]
        obtain ⟨a1, a2, a3⟩ := shipE_ok h3
        obtain ⟨s, q⟩ := h.ship _ a2
        exact set_fair h a2 ⟨by simp, s.wide, s.long, s.cls, s.queued, fun h => by simp at h, fun _ => rfl⟩ rfl
      · rename_i h3; exact absurd he h3
    · rename_i h2
      rw [if_neg h2]
      split at he
      · rename_i h4
        rw [if_pos h4]
        split at he
        · rename_i h3
          rw [if_pos h3]
          obtain ⟨a1, a2, a3⟩ := shipE_ok h3
          obtain ⟨s, q⟩ := h.ship _ a2
          have a3 : (p.ship o.a.toNat).state = 1 := by simpa using a3
          exact set_fair h a2 ⟨by simp, s.wide, s.long, s.cls, s.queued, fun h => by simp at h, fun _ => s.other (by omega)⟩ rfl
        · rename_i h3; exact absurd he h3
      · rename_i h4
        rw [if_neg h4]
        split at he
        · rename_i h5
          rw [if_pos h5]
          split at he
          · rename_i h3
            rw [if_pos h3]
            obtain ⟨a1, a2, a3⟩ := shipE_ok h3
            obtain ⟨s, q⟩ := h.ship _ a2
            have a3 : (p.ship o.a.toNat).state = 2 := by simpa using a3
            exact set_fair h a2 ⟨by simp, s.wide, s.long, s.cls, s.queued, fun h => by simp at h, fun _ => s.other (by omega)⟩ rfl
          · rename_i h3; exact absurd he h3
        · rename_i h5
          rw [if_neg h5]
          split at he
          · rename_i h6
            rw [if_pos h6]
            split at he
            · rename_i h3
              rw [if_pos h3]
              split at he
              · simp at he
              · rename_i h7
                rw [if_neg h7]
                obtain ⟨a1, a2, a3⟩ := shipE_ok h3
                obtain ⟨s, q⟩ := h.ship _ a2
                refine set_fair h a2 ⟨s.state, s.wide, by simp only []; omega, s.cls, s.queued, fun h => ?_, s.other⟩ rfl
                have h : (p.ship o.a.toNat).state = 3 := h
                have := s.lies h
                simp only []
                omega
            · rename_i h3; exact absurd he h3
          · rename_i h6
            rw [if_neg h6]
            split at he
            · rename_i h7
              rw [if_pos h7]
              split at he
              · rename_i h8
                rw [if_pos h8]
                cases hf : freeKeep p with
                | none => rw [hf] at he; simp at he
                | some i =>
                  have := h.now
                  exact keep_fair h (free_keep hf).1 (.inr ⟨h8.1.1, h8.1.2, by simp only []; omega, h8.2.2.1, h8.2.2.2⟩)
              · simp at he
            · rename_i h7
              rw [if_neg h7]
              split at he
              · rename_i h8
                rw [if_pos h8]
                split at he
                · rename_i h9
                  rw [if_pos h9]
                  exact keep_fair h (by omega) (.inl ⟨rfl, rfl, rfl⟩)
                · simp at he
              · rename_i h8
                rw [if_neg h8]
                split at he
                · rename_i h9
                  rw [if_pos h9]
                  split at he
                  · rename_i h10
                    rw [if_pos h10]
                    exact { now := h.now, shut := h10, len := h.len, next := h.next, ship := h.ship, apart := h.apart, four := h.four, kept := h.kept }
                  · simp at he
                · simp at he

/-- What an order leaves is a good port. -/
theorem tell_good {p : Port} {o : Order} (h : PGood p) : PGood (tellL p o).1 ∧ ((tellL p o).2.2 ≠ 0 → (tellL p o).1 = p ∧ (tellL p o).2.1 = 0) := by
  unfold tellL
  split
  · rename_i he
    split
    · rename_i hb
      have hf := tell1_fair h.toFair he
      exact ⟨{ hf with room := (base_good hf).1.1 hb }, fun h => absurd he h⟩
    · exact ⟨h, fun _ => ⟨rfl, rfl⟩⟩
  · exact ⟨h, fun _ => ⟨rfl, rfl⟩⟩

/-! Who is ahead stays. -/

theorem sumTo_more (f : Nat → Int) (n m : Nat) (h : n ≤ m) (hz : ∀ j, n ≤ j → f j = 0) : sumTo f m = sumTo f n := by
  induction m with
  | zero => rw [show n = 0 by omega]
  | succ m ih =>
    by_cases e : n = m + 1
    · rw [e]
    · simp only [sumTo]; rw [ih (by omega), hz m (by omega)]; omega

/-- Two ports that have the same ships ahead of a key, with as much free, plan them alike. -/
theorem plan_agree {p q : Port} {a b : List Int} {K : Int} (hp : PGood p) (ha : IsPlan p a) (hb : IsPlan q b) (hn : p.now = q.now)
    (hf : ∀ u, 0 ≤ u → u < 300 → freeOf p u = freeOf q u) (hl : p.ships.length ≤ q.ships.length)
    (hs : ∀ j, (p.ship j = q.ship j) ∨ (((p.ship j).state = 1 → K ≤ key (p.ship j)) ∧ ((q.ship j).state = 1 → K ≤ key (q.ship j)))) :
    ∀ i, i < p.ships.length → (p.ship i).state = 1 → key (p.ship i) < K → a.getD i (-1) = b.getD i (-1) := by
  have key0 : ∀ i, i < p.ships.length → 0 ≤ key (p.ship i) := fun i hi => by
    obtain ⟨s, _⟩ := hp.ship i hi; have := s.cls; have := s.queued; unfold key; omega
  have main : ∀ (n : Nat) (i : Nat), i < p.ships.length → (p.ship i).state = 1 → key (p.ship i) < K → (key (p.ship i)).toNat < n → a.getD i (-1) = b.getD i (-1) := by
    intro n
    induction n with
    | zero => intro i _ _ _ h; omega
    | succ n ih =>
      intro i hi hst hk hn'
      have e : p.ship i = q.ship i := by
        rcases hs i with h | ⟨h, _⟩
        · exact h
        · have := h hst; omega
      refine First.unique hp.now.1 (fun u u0 u1 => ?_) (ha.first i hi hst) (show First (prof q b (key (p.ship i))) p.now (p.ship i).long (p.ship i).wide (b.getD i (-1)) by
        rw [e, hn]; exact hb.first i (by omega) (by rw [← e]; exact hst))
      unfold prof
      rw [hf u (by have := hp.now; omega) (by omega)]
      congr 1
      rw [← sumTo_more _ p.ships.length q.ships.length hl fun j hj => ?_]
      · refine sumTo_congr _ fun j hj => ?_
        by_cases hc : (p.ship j).state = 1 ∧ key (p.ship j) < key (p.ship i)
        · have ej : p.ship j = q.ship j := by
            rcases hs j with h | ⟨h, _⟩
            · exact h
            · have := h hc.1; omega
          have hjl : j < p.ships.length := by
            rcases Nat.lt_or_ge j p.ships.length with h | h
            · exact h
            · have := hc.1; rw [ship_none h] at this; simp [Ship.zero] at this
          rw [if_pos hc, if_pos (by rw [← ej]; exact hc), ← ej, ih j hjl hc.1 (by omega) (by have := key0 j hjl; have := key0 i hi; omega)]
        · rw [if_neg hc, if_neg]
          intro hc2
          rcases hs j with h | ⟨_, h⟩
          · rw [← h] at hc2; exact hc hc2
          · have := h hc2.1; omega
      · rw [ship_none hj, if_neg (by simp [Ship.zero])]
  exact fun i hi hst hk => main _ i hi hst hk (Nat.lt_succ_self _)

theorem set_free {p : Port} {i : Nat} {s : Ship} (hi : i < p.ships.length) (h1 : (p.ship i).state ≠ 3) (h2 : s.state ≠ 3) (u : Int) : freeOf (p.setShip i s) u = freeOf p u := by
  have hl : (p.setShip i s).ships.length = p.ships.length := by simp [Port.setShip]
  have e : sumTo (fun j => lieAt ((p.setShip i s).ship j) u) (p.setShip i s).ships.length = sumTo (fun j => lieAt (p.ship j) u) p.ships.length := by
    rw [hl]
    refine sumTo_congr _ fun j hj => ?_
    rw [set_ship p i j s hi]
    split
    · rename_i e
      subst e
      unfold lieAt
      rw [if_neg (fun h => h2 h.1), if_neg (fun h => h1 h.1)]
    · rfl
  unfold freeOf
  rw [e]
  rfl

theorem come_free {p : Port} {s : Ship} (h2 : s.state ≠ 3) (u : Int) : freeOf (p.come s) u = freeOf p u := by
  have hl : (p.come s).ships.length = p.ships.length + 1 := by simp [Port.come]
  have e : sumTo (fun j => lieAt ((p.come s).ship j) u) (p.come s).ships.length = sumTo (fun j => lieAt (p.ship j) u) p.ships.length := by
    rw [hl]
    simp only [sumTo]
    rw [come_ship, if_pos rfl, show lieAt s u = 0 by unfold lieAt; rw [if_neg (fun h => h2 h.1)], Int.add_zero]
    refine sumTo_congr _ fun j hj => ?_
    rw [come_ship, if_neg (by omega)]
  unfold freeOf
  rw [e]
  rfl

/-- An order about one that waits moves nobody who is ahead of it. -/
theorem tell_ranks {p q : Port} {o : Order} {n : Int} {a b : List Int} (h : PGood p) (ht : tellL p o = (q, n, 0)) (hk : o.kind = 1 ∨ ((o.kind = 2 ∨ o.kind = 3 ∨ o.kind = 5) ∧ (p.ship o.a.toNat).state = 1))
    (ha : IsPlan p a) (hb : IsPlan q b) :
    ∀ i, i < p.ships.length → (p.ship i).state = 1 → key (p.ship i) < key (q.ship (if o.kind = 1 then n else o.a).toNat) → a.getD i (-1) = b.getD i (-1) := by
  have hq : PGood q := by have := (tell_good (o := o) h).1; rw [ht] at this; exact this
  have h1 : tell1 p o = (q, n, 0) := by
    unfold tellL at ht
    split at ht
    · split at ht
      · exact ht
      · simp at ht
    · rename_i hne
      simp only [Prod.mk.injEq] at ht
      exact absurd ht.2.2 hne
  clear ht
  have setcase : ∀ s : Ship, 0 ≤ o.a → o.a.toNat < p.ships.length → q = p.setShip o.a.toNat s → (p.ship o.a.toNat).state = 1 → s.state ≠ 3 → key s = key (p.ship o.a.toNat) → o.kind ≠ 1 →
      ∀ i, i < p.ships.length → (p.ship i).state = 1 → key (p.ship i) < key (q.ship (if o.kind = 1 then n else o.a).toNat) → a.getD i (-1) = b.getD i (-1) := by
    intro s hn hl e e1 e2 e3 e4
    subst e
    rw [if_neg e4]
    refine plan_agree h ha hb rfl (fun u _ _ => (set_free hl (by omega) e2 u).symm) (by simp [Port.setShip]) fun j => ?_
    rw [set_ship p o.a.toNat j s hl, set_ship p o.a.toNat o.a.toNat s hl, if_pos rfl]
    by_cases ej : j = o.a.toNat
    · subst ej
      rw [if_pos rfl]
      exact .inr ⟨fun _ => by omega, fun _ => by omega⟩
    · rw [if_neg ej]; exact .inl rfl
  by_cases k1 : o.kind = 1
  · unfold tell1 at h1
    rw [if_pos k1] at h1
    split at h1
    · split at h1
      · simp at h1
      · simp only [Prod.mk.injEq] at h1
        obtain ⟨rfl, rfl, _⟩ := h1
        rw [if_pos k1]
        refine plan_agree h ha hb rfl (fun u _ _ => (come_free (by simp) u).symm) (by simp [Port.come]) fun j => ?_
        rw [come_ship p j, Int.toNat_natCast, come_ship p p.ships.length, if_pos (rfl : p.ships.length = p.ships.length)]
        by_cases ej : j = p.ships.length
        · subst ej
          rw [if_pos rfl, ship_none (Nat.le_refl _)]
          exact .inr ⟨fun h => by simp [Ship.zero] at h, fun _ => Int.le_refl _⟩
        · rw [if_neg ej]; exact .inl rfl
    · simp at h1
  · obtain ⟨hk, hst⟩ := hk.resolve_left k1
    unfold tell1 at h1
    rw [if_neg k1] at h1
    rcases hk with k | k | k
    · rw [if_pos k] at h1
      split at h1
      · rename_i h2
        obtain ⟨a1, a2, _⟩ := shipE_ok h2
        simp only [Prod.mk.injEq] at h1
        exact setcase _ a1 a2 h1.1.symm hst (by simp) rfl k1
      · rename_i h2; simp only [Prod.mk.injEq] at h1; exact absurd h1.2.2 h2
    · rw [if_neg (by omega), if_pos k] at h1
      split at h1
      · rename_i h2
        obtain ⟨a1, a2, _⟩ := shipE_ok h2
        simp only [Prod.mk.injEq] at h1
        exact setcase _ a1 a2 h1.1.symm hst (by simp) rfl k1
      · rename_i h2; simp only [Prod.mk.injEq] at h1; exact absurd h1.2.2 h2
    · rw [if_neg (by omega), if_neg (by omega), if_neg (by omega), if_pos k] at h1
      split at h1
      · rename_i h2
        obtain ⟨a1, a2, _⟩ := shipE_ok h2
        split at h1
        · simp at h1
        · simp only [Prod.mk.injEq] at h1
          exact setcase _ a1 a2 h1.1.symm hst (by simp only []; omega) rfl k1
      · rename_i h2; simp only [Prod.mk.injEq] at h1; exact absurd h1.2.2 h2
end Go.Proofs.Ytifmdkcpbajdcaa.Plain
