/- Plain laws: who comes in by plan finds room, and none ahead of it. -/
import Derived.Test.YtifmdkcpbajdcaaDeskPlain
import Derived.Test.YtifmdkcpbajdcaaSpanLawPlain
namespace Go.Proofs.Ytifmdkcpbajdcaa.Plain

theorem fits_takeL {l : Prof} (hg : Good l) {t long n : Int} (hl : 1 ≤ long) (hn : 0 ≤ n ∧ n ≤ 16) (ht : 0 ≤ t) :
    (takeL l t (t + long) n).2 = true ↔ Fits (val l) long n t := by
  unfold takeL
  rw [if_pos hn]
  by_cases h3 : t + long ≤ 300
  · obtain ⟨a1, _, _⟩ := addL_good (n := -n) hg ht (show t ≤ t + long by omega) h3
    rw [a1]
    constructor
    · intro h
      exact ⟨h3, fun k k0 k1 => by have := (h k k0 k1).1; omega⟩
    · intro h k k0 k1
      have := h.2 k k0 k1
      have := val_range hg k
      omega
  · have : addL l t (t + long) (-n) = (l, false) := addL_bad fun h => h3 h.2.2.2
    rw [this]
    exact ⟨fun h => by simp at h, fun h => absurd h.1 h3⟩

theorem takeL_cover {l : Prof} {s : Ship} {t : Int} (hg : Good l) (ht : 0 ≤ t) (h : (takeL l t (t + s.long) s.wide).2 = true) :
    Good (takeL l t (t + s.long) s.wide).1 ∧ ∀ u, 0 ≤ u → u < 300 → val (takeL l t (t + s.long) s.wide).1 u = val l u - cover s t u := by
  obtain ⟨_, a0, a1, a2, a3, a4⟩ := takeL_yes h
  obtain ⟨_, b, _⟩ := takeL_good (x := ⟨t, t + s.long, s.wide⟩) hg ⟨a0, a1, a2, a3, a4⟩
  obtain ⟨b1, b2⟩ := b h
  refine ⟨b1, fun u u0 u1 => ?_⟩
  rw [show val (takeL l t (t + s.long) s.wide).1 u = _ from b2 u u0 u1]
  unfold Item.at cover
  by_cases c : t ≤ u ∧ u < t + s.long
  · rw [if_pos c, if_pos ⟨ht, c.1, c.2⟩]
  · rw [if_neg c, if_neg fun h => c h.2]

theorem sumTo_more_le {f : Nat → Int} {n m : Nat} (h : n ≤ m) (hf : ∀ j, j < m → 0 ≤ f j) : sumTo f n ≤ sumTo f m := by
  induction m with
  | zero => rw [show n = 0 by omega]; exact Int.le_refl _
  | succ m ih =>
    by_cases c : n = m + 1
    · rw [c]; exact Int.le_refl _
    · have := ih (by omega) fun j hj => hf j (by omega)
      have := hf m (by omega)
      rw [sumTo]; omega

/-! Ship by ship. -/

def roomL (p : Port) (plan : List Int) : Nat → Prof
  | 0 => (baseL p).1
  | k + 1 => if plan.getD k (-1) < 0 then roomL p plan k else (takeL (roomL p plan k) (plan.getD k (-1)) (plan.getD k (-1) + (p.ship k).long) (p.ship k).wide).1

theorem plan_waits {p : Port} {plan : List Int} {k : Nat} (h : PGood p) (hp : IsPlan p plan) (hk : k < p.ships.length) (h0 : 0 ≤ plan.getD k (-1)) :
    (p.ship k).state = 1 ∧ p.now ≤ plan.getD k (-1) ∧ plan.getD k (-1) + (p.ship k).long ≤ 300 := by
  by_cases hs : (p.ship k).state = 1
  · rcases First.none_or h.now.1 (hp.first k hk hs) with g | ⟨g1, _, g2⟩
    · omega
    · exact ⟨hs, g1, g2.1⟩
  · have := hp.other k hk hs; omega

theorem room_takes {p : Port} {plan : List Int} (h : PGood p) (hp : IsPlan p plan) : ∀ k, k ≤ p.ships.length →
    Good (roomL p plan k) ∧ (∀ u, 0 ≤ u → u < 300 → val (roomL p plan k) u = freeOf p u - sumTo (fun j => if (p.ship j).state = 1 then cover (p.ship j) (plan.getD j (-1)) u else 0) k)
  | 0, _ => by
    have hb := (base_good h.toFair).1.2 h.room
    obtain ⟨g1, g2⟩ := (base_good h.toFair).2 hb
    exact ⟨g1, fun u u0 u1 => by rw [roomL, g2 u u0 u1, sumTo]; omega⟩
  | k + 1, hk => by
    obtain ⟨g, v⟩ := room_takes h hp k (by omega)
    rw [roomL]
    by_cases c : plan.getD k (-1) < 0
    · rw [if_pos c]
      refine ⟨g, fun u u0 u1 => ?_⟩
      rw [v u u0 u1, sumTo, cover_neg c]; split <;> omega
    · rw [if_neg c]
      obtain ⟨w1, w2, w3⟩ := plan_waits h hp (show k < p.ships.length by omega) (by omega)
      obtain ⟨so, _⟩ := h.ship k (by omega)
      have hn := h.now.1
      have hok : (takeL (roomL p plan k) (plan.getD k (-1)) (plan.getD k (-1) + (p.ship k).long) (p.ship k).wide).2 = true := by
        rw [fits_takeL g so.long.1 ⟨by have := so.wide; omega, so.wide.2⟩ (by omega)]
        refine ⟨w3, fun u u0 u1 => ?_⟩
        rw [v u (by omega) (by omega)]
        have hr := rest_room h hp u (by omega) (by omega)
        unfold rest at hr
        have hle := sumTo_more_le (f := fun j => if (p.ship j).state = 1 then cover (p.ship j) (plan.getD j (-1)) u else 0) (n := k + 1) (m := p.ships.length) hk fun j hj => by
          split
          · exact cover_nonneg (by obtain ⟨s, _⟩ := h.ship j hj; have := s.wide; omega)
          · exact Int.le_refl _
        rw [sumTo] at hle
        simp only [w1, if_true] at hle
        have e : cover (p.ship k) (plan.getD k (-1)) u = (p.ship k).wide := by unfold cover; rw [if_pos ⟨by omega, u0, u1⟩]
        rw [e] at hle
        omega
      obtain ⟨g1, g2⟩ := takeL_cover g (by omega) hok
      refine ⟨g1, fun u u0 u1 => ?_⟩
      rw [g2 u u0 u1, v u u0 u1, sumTo]
      simp only [w1, if_true]; omega

theorem room_ok {p : Port} {plan : List Int} {k : Nat} (h : PGood p) (hp : IsPlan p plan) (hk : k < p.ships.length) (h0 : 0 ≤ plan.getD k (-1)) :
    takeL (roomL p plan k) (plan.getD k (-1)) (plan.getD k (-1) + (p.ship k).long) (p.ship k).wide = (roomL p plan (k + 1), true) := by
  obtain ⟨g, v⟩ := room_takes h hp k (by omega)
  obtain ⟨w1, w2, w3⟩ := plan_waits h hp (show k < p.ships.length by omega) (by omega)
  obtain ⟨so, _⟩ := h.ship k (by omega)
  have hn := h.now.1
  have hok : (takeL (roomL p plan k) (plan.getD k (-1)) (plan.getD k (-1) + (p.ship k).long) (p.ship k).wide).2 = true := by
    rw [fits_takeL g so.long.1 ⟨by have := so.wide; omega, so.wide.2⟩ (by omega)]
    refine ⟨w3, fun u u0 u1 => ?_⟩
    rw [v u (by omega) (by omega)]
    have hr := rest_room h hp u (by omega) (by omega)
    unfold rest at hr
    have hle := sumTo_more_le (f := fun j => if (p.ship j).state = 1 then cover (p.ship j) (plan.getD j (-1)) u else 0) (n := k + 1) (m := p.ships.length) hk fun j hj => by
      split
      · exact cover_nonneg (by obtain ⟨s, _⟩ := h.ship j hj; have := s.wide; omega)
      · exact Int.le_refl _
    rw [sumTo] at hle
    simp only [w1, if_true] at hle
    have e : cover (p.ship k) (plan.getD k (-1)) u = (p.ship k).wide := by unfold cover; rw [if_pos ⟨by omega, u0, u1⟩]
    rw [e] at hle
    omega
  refine Prod.ext ?_ hok
  rw [roomL, if_neg (by omega)]

theorem room_still {p : Port} {plan : List Int} {k : Nat} (h0 : plan.getD k (-1) < 0) : roomL p plan (k + 1) = roomL p plan k := by
  rw [roomL, if_pos h0]

/-! By rank. -/

def firstL (p : Port) (plan : List Int) (r : List Nat) : Nat → Prof
  | 0 => (baseL p).1
  | k + 1 => if plan.getD (r.getD k 0) (-1) < 0 then firstL p plan r k
    else (takeL (firstL p plan r k) (plan.getD (r.getD k 0) (-1)) (plan.getD (r.getD k 0) (-1) + (p.ship (r.getD k 0)).long) (p.ship (r.getD k 0)).wide).1

theorem rank_cut (r : List Nat) (k : Nat) (h : k < r.length) : r = r.take k ++ r.getD k 0 :: r.drop (k + 1) := by
  rw [List.getD_eq_getElem?_getD, List.getElem?_eq_getElem h, Option.getD_some, ← List.drop_eq_getElem_cons h, List.take_append_drop]

theorem rank_get {p : Port} {r : List Nat} {k : Nat} (hr : IsRank p r) (h : k < r.length) : r.getD k 0 < p.ships.length ∧ (p.ship (r.getD k 0)).state = 1 := by
  refine (hr.mem _).1 ?_
  rw [List.getD_eq_getElem?_getD, List.getElem?_eq_getElem h]; exact List.getElem_mem h

theorem first_takes {p : Port} {plan : List Int} {r : List Nat} (h : PGood p) (hp : IsPlan p plan) (hr : IsRank p r) : ∀ k, k ≤ r.length →
    Good (firstL p plan r k) ∧ (∀ u, 0 ≤ u → u < 300 → val (firstL p plan r k) u = freeOf p u - ((r.take k).map fun j => cover (p.ship j) (plan.getD j (-1)) u).sum)
  | 0, _ => by
    have hb := (base_good h.toFair).1.2 h.room
    obtain ⟨g1, g2⟩ := (base_good h.toFair).2 hb
    exact ⟨g1, fun u u0 u1 => by rw [firstL, g2 u u0 u1]; simp⟩
  | k + 1, hk => by
    obtain ⟨g, v⟩ := first_takes h hp hr k (by omega)
    obtain ⟨i0, i1⟩ := rank_get hr (show k < r.length by omega)
    have hcut := rank_cut r k (by omega)
    have htk : r.take (k + 1) = r.take k ++ [r.getD k 0] := by
      rw [List.take_succ_eq_append_getElem (show k < r.length by omega), List.getD_eq_getElem?_getD, List.getElem?_eq_getElem (show k < r.length by omega)]; rfl
    rw [firstL, htk]
    generalize r.getD k 0 = i at *
    by_cases c : plan.getD i (-1) < 0
    · rw [if_pos c]
      refine ⟨g, fun u u0 u1 => ?_⟩
      rw [v u u0 u1, List.map_append, List.sum_append]
      simp only [List.map_cons, List.map_nil, List.sum_cons, List.sum_nil]
      rw [cover_neg c]; omega
    · rw [if_neg c]
      obtain ⟨w1, w2, w3⟩ := plan_waits h hp i0 (by omega)
      obtain ⟨so, _⟩ := h.ship i i0
      have hn := h.now.1
      have hf := hp.first i i0 i1
      have hpr : ∀ u, 0 ≤ u → u < 300 → prof p plan (key (p.ship i)) u = val (firstL p plan r k) u := fun u u0 u1 => by
        rw [prof_rank hr hcut plan u, v u u0 u1]
      have hok : (takeL (firstL p plan r k) (plan.getD i (-1)) (plan.getD i (-1) + (p.ship i).long) (p.ship i).wide).2 = true := by
        rw [fits_takeL g so.long.1 ⟨by have := so.wide; omega, so.wide.2⟩ (by omega)]
        rcases First.none_or hn hf with e | ⟨_, _, e⟩
        · omega
        · exact ⟨e.1, fun u u0 u1 => by rw [← hpr u (by omega) (by have := e.1; omega)]; exact e.2 u u0 u1⟩
      obtain ⟨g1, g2⟩ := takeL_cover g (by omega) hok
      refine ⟨g1, fun u u0 u1 => ?_⟩
      rw [g2 u u0 u1, v u u0 u1, List.map_append, List.sum_append]
      simp only [List.map_cons, List.map_nil, List.sum_cons, List.sum_nil]
      omega

/-- What a round by rank finds. -/
theorem first_round {p : Port} {plan : List Int} {r : List Nat} {k : Nat} (h : PGood p) (hp : IsPlan p plan) (hr : IsRank p r) (hk : k < r.length) :
    (∀ t, p.now ≤ t → t < (if plan.getD (r.getD k 0) (-1) < 0 then 300 - (p.ship (r.getD k 0)).long + 1 else plan.getD (r.getD k 0) (-1)) →
      (takeL (firstL p plan r k) t (t + (p.ship (r.getD k 0)).long) (p.ship (r.getD k 0)).wide).2 = false) ∧
    (plan.getD (r.getD k 0) (-1) < 0 → firstL p plan r (k + 1) = firstL p plan r k) ∧
    (0 ≤ plan.getD (r.getD k 0) (-1) → (takeL (firstL p plan r k) (plan.getD (r.getD k 0) (-1)) (plan.getD (r.getD k 0) (-1) + (p.ship (r.getD k 0)).long) (p.ship (r.getD k 0)).wide).1 = firstL p plan r (k + 1)) := by
  obtain ⟨g, v⟩ := first_takes h hp hr k (by omega)
  obtain ⟨i0, i1⟩ := rank_get hr hk
  have hcut := rank_cut r k hk
  have hdef : firstL p plan r (k + 1) = if plan.getD (r.getD k 0) (-1) < 0 then firstL p plan r k
    else (takeL (firstL p plan r k) (plan.getD (r.getD k 0) (-1)) (plan.getD (r.getD k 0) (-1) + (p.ship (r.getD k 0)).long) (p.ship (r.getD k 0)).wide).1 := rfl
  rw [hdef]
  clear hdef
  generalize r.getD k 0 = i at *
  obtain ⟨so, _⟩ := h.ship i i0
  have hn := h.now.1
  have hf := hp.first i i0 i1
  have hpr : ∀ u, 0 ≤ u → u < 300 → prof p plan (key (p.ship i)) u = val (firstL p plan r k) u := fun u u0 u1 => by
    rw [prof_rank hr hcut plan u, v u u0 u1]
  refine ⟨fun t t0 t1 => ?_, fun c => if_pos c, fun c => by rw [if_neg (by omega)]⟩
  rw [← Bool.not_eq_true, fits_takeL g so.long.1 ⟨by have := so.wide; omega, so.wide.2⟩ (by omega)]
  intro hfit
  have hfit2 : Fits (prof p plan (key (p.ship i))) (p.ship i).long (p.ship i).wide t :=
    ⟨hfit.1, fun u u0 u1 => by rw [hpr u (by omega) (by have := hfit.1; omega)]; exact hfit.2 u u0 u1⟩
  rcases hf with ⟨_, f⟩ | ⟨f1, _, f⟩
  · exact f t t0 hfit2
  · rw [if_neg (by omega)] at t1
    exact f t t0 t1 hfit2
end Go.Proofs.Ytifmdkcpbajdcaa.Plain
