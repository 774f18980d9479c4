/- Plain laws: a plan that is made ship by ship of a table. -/
import Derived.Test.YtifmdkcpbajdcaaRef3
namespace Go.Proofs.Ytifmdkcpbajdcaa
open Plain

/-- The table is what the plan has left so far. -/
structure PT (p : Port) (r : List Nat) (k : Nat) (fs : List Int) : Prop where
  tab : Tab fs
  eq : ∀ u : Nat, u < 300 → val (planAt p r k).1 u = fs.getD u 0

theorem pt_start {p : Port} (h : PGood p) (r : List Nat) {fs : List Int} (hl : fs.length = 300) (hfs : ∀ u : Nat, u < 300 → fs.getD u 0 = freeOf p u) : PT p r 0 fs := by
  obtain ⟨g1, g2⟩ := (base_good h.toFair).2 ((base_good h.toFair).1.2 h.room)
  have he : ∀ u : Nat, u < 300 → val (baseL p).1 u = fs.getD u 0 := fun u hu => by rw [hfs u hu, g2 u (by omega) (by omega)]
  exact ⟨⟨hl, fun t ht => by rw [← he t ht]; exact val_range g1 t⟩, he⟩

theorem rank_nodup {p : Port} {r : List Nat} (hr : IsRank p r) {k : Nat} (hk : k < r.length) : r.getD k 0 ∉ r.take k := fun hm => by
  have hs := hr.sorted
  rw [← List.take_append_drop k r, List.drop_eq_getElem_cons hk] at hs
  have := (List.pairwise_append.1 hs).2.2 _ hm _ (List.mem_cons_self ..)
  rw [List.getD_eq_getElem?_getD, List.getElem?_eq_getElem hk] at this
  exact absurd this (by simp)

theorem planAt_out (p : Port) (r : List Nat) : ∀ k, k ≤ r.length → ∀ i, i ∉ r.take k → (planAt p r k).2.getD i (-1) = -1
  | 0, _, i, _ => by
    show (noneL p.ships.length).getD i (-1) = -1
    unfold noneL
    rw [List.getD_eq_getElem?_getD, List.getElem?_replicate]
    split <;> rfl
  | k + 1, hk, i, hi => by
    have hkl : k < r.length := by omega
    rw [List.take_succ_eq_append_getElem hkl, List.mem_append, List.mem_singleton] at hi
    have ih := planAt_out p r k (by omega) i (fun h => hi (.inl h))
    have hne : i ≠ r.getD k 0 := fun e => hi (.inr (by rw [e, List.getD_eq_getElem?_getD, List.getElem?_eq_getElem hkl]; rfl))
    rw [planAt]
    unfold planStep
    split
    · show ((planAt p r k).2.set _ _).getD i (-1) = -1
      simp only [List.getD_eq_getElem?_getD] at ih hne ⊢
      rw [List.getElem?_set_ne (fun e => hne e.symm)]
      exact ih
    · exact ih

theorem pt_next {p : Port} {r : List Nat} {k : Nat} {fs : List Int} (hg : PGood p) (hr : IsRank p r) (hk : k < r.length) (h : PT p r k fs) {v : Int}
    (hv : First (tabF fs) p.now (p.ship (r.getD k 0)).long (p.ship (r.getD k 0)).wide v) :
    (planAt p r (k + 1)).2 = (planAt p r k).2.set (r.getD k 0) v ∧
    ((v = -1 ∧ PT p r (k + 1) fs) ∨ (0 ≤ v ∧ v + (p.ship (r.getD k 0)).long ≤ 300 ∧ lessOk fs v (v + (p.ship (r.getD k 0)).long) (p.ship (r.getD k 0)).wide = true ∧ PT p r (k + 1) (lessL fs v (v + (p.ship (r.getD k 0)).long) (p.ship (r.getD k 0)).wide))) := by
  obtain ⟨i0, i1⟩ := rank_get hr hk
  have hout := planAt_out p r k (by omega) _ (rank_nodup hr hk)
  have hG := planAt_good hg r k
  have hst : planAt p r (k + 1) = planStep p (planAt p r k) (r.getD k 0) := rfl
  obtain ⟨hs, _⟩ := hg.ship _ i0
  have hw := hs.wide
  have hlo := hs.long
  have hn := hg.now
  have hmx : max 0 p.now = p.now := by omega
  have hf := fitL_first (fr := max 0 p.now) (n := (p.ship (r.getD k 0)).wide) hG (by omega) hlo.1 hlo.2 (by omega)
  have hev : fitL (planAt p r k).1 (max 0 p.now) (p.ship (r.getD k 0)).long (p.ship (r.getD k 0)).wide = v := by
    rw [hmx] at hf ⊢
    refine First.unique hn.1 (fun u u0 u1 => ?_) hf hv
    have := h.eq u.toNat (by omega)
    rwa [show ((u.toNat : Nat) : Int) = u by omega] at this
  rcases First.none_or hn.1 hv with e | ⟨e1, e2, e3⟩
  · subst e
    have := planStep_no (p := p) (s := planAt p r k) (i := r.getD k 0) (by omega)
    rw [this] at hst
    refine ⟨?_, .inl ⟨rfl, h.tab, fun u hu => by rw [hst]; exact h.eq u hu⟩⟩
    rw [hst, set_same _ _ hout]
  · have := planStep_yes (p := p) (s := planAt p r k) (i := r.getD k 0) hev e2
    rw [this] at hst
    have hfit := e3.2
    have hok : lessOk fs v (v + (p.ship (r.getD k 0)).long) (p.ship (r.getD k 0)).wide = true := (lessOk_iff fs _ _ _ e3.1).2 fun t t1 t2 => by
      have a := hfit t t1 t2
      have b := h.tab.2 t (by have := e3.1; omega)
      unfold tabF at a
      rw [Int.toNat_natCast] at a
      omega
    have hTA : takeL (planAt p r k).1 v (v + (p.ship (r.getD k 0)).long) (p.ship (r.getD k 0)).wide = addL (planAt p r k).1 v (v + (p.ship (r.getD k 0)).long) (-(p.ship (r.getD k 0)).wide) := by
      unfold takeL; rw [if_pos ⟨by omega, hw.2⟩]
    obtain ⟨b1, b2⟩ := add_less (n := (p.ship (r.getD k 0)).wide) hG h.eq e2 (show v ≤ v + (p.ship (r.getD k 0)).long by omega) e3.1
    obtain ⟨c1, c2⟩ := b2 (b1.trans hok)
    refine ⟨by rw [hst], .inr ⟨e2, e3.1, hok, ⟨lessL_len _ _ _ _, fun t ht => ?_⟩, fun u hu => ?_⟩⟩
    · rw [← c2 t ht]; exact val_range c1 t
    · rw [hst]
      show val (takeL _ _ _ _).1 u = _
      rw [hTA]; exact c2 u hu

theorem pt_all {p : Port} {r : List Nat} (hg : PGood p) (hr : IsRank p r) : (planAt p r r.length).2 = thePlan p := by
  rw [planAt_all ((base_good hg.toFair).1.2 hg.room), planL_the hg hr]
end Go.Proofs.Ytifmdkcpbajdcaa
