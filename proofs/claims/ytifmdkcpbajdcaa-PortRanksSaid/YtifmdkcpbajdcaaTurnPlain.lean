/- Orders, who is due, and time, in plain data: ports stay good, plans stay as they were. -/
import Derived.Test.YtifmdkcpbajdcaaMendPlain
namespace Go.Proofs.Ytifmdkcpbajdcaa.Plain

/-- Each ship by itself turned. -/
def Port.turn (p : Port) (f : Nat → Ship → Ship) : Port := { p with ships := (List.range p.ships.length).map fun i => f i (p.ship i) }

theorem turn_len (p : Port) (f : Nat → Ship → Ship) : (p.turn f).ships.length = p.ships.length := by simp [Port.turn]
theorem turn_ship (p : Port) (f : Nat → Ship → Ship) (i : Nat) (h : i < p.ships.length) : (p.turn f).ship i = f i (p.ship i) := by
  simp only [Port.turn, Port.ship, List.getD_eq_getElem?_getD]
  rw [List.getElem?_map, List.getElem?_range h]
  simp

/-! Who is due. -/

def isDue (p : Port) (plan : List Int) (i : Nat) : Bool := decide (i < plan.length) && decide (plan.getD i (-1) = p.now) && decide ((p.ship i).state = 1)
def dueL (p : Port) (plan : List Int) : Port := p.turn fun i s => if isDue p plan i = true then { s with state := 3, since := p.now } else s
def whoL (p : Port) (plan : List Int) : List Nat := (List.range p.ships.length).filter (isDue p plan)
def notDue (p : Port) (plan : List Int) : List Int := (List.range plan.length).map fun i => if isDue p plan i = true then -1 else plan.getD i (-1)

theorem due_keep (p : Port) (plan : List Int) (i : Nat) : (dueL p plan).keep i = p.keep i := rfl

theorem notDue_get (p : Port) (plan : List Int) (i : Nat) : (notDue p plan).getD i (-1) = if isDue p plan i = true then -1 else plan.getD i (-1) := by
  by_cases h : i < plan.length
  · simp only [notDue, List.getD_eq_getElem?_getD]
    rw [List.getElem?_map, List.getElem?_range h]
    simp
  · have e1 : (notDue p plan).getD i (-1) = -1 := by
      rw [List.getD_eq_getElem?_getD, List.getElem?_eq_none (by simp [notDue]; omega)]; rfl
    have e2 : plan.getD i (-1) = -1 := by
      rw [List.getD_eq_getElem?_getD, List.getElem?_eq_none (by omega)]; rfl
    rw [e1, e2]; split <;> rfl

theorem due_free {p : Port} {plan : List Int} (h : PGood p) (u : Int) (u0 : p.now ≤ u) :
    freeOf (dueL p plan) u = freeOf p u - sumTo (fun i => if isDue p plan i = true then cover (p.ship i) (plan.getD i (-1)) u else 0) p.ships.length := by
  have hn := h.now
  have e : sumTo (fun i => lieAt ((dueL p plan).ship i) u) (dueL p plan).ships.length =
      sumTo (fun i => lieAt (p.ship i) u) p.ships.length + sumTo (fun i => if isDue p plan i = true then cover (p.ship i) (plan.getD i (-1)) u else 0) p.ships.length := by
    rw [← sumTo_add]
    rw [show (dueL p plan).ships.length = p.ships.length from turn_len _ _]
    refine sumTo_congr _ fun i hi => ?_
    rw [show (dueL p plan).ship i = _ from turn_ship _ _ i hi]
    by_cases hd : isDue p plan i = true
    · rw [if_pos hd, if_pos hd]
      simp only [isDue, Bool.and_eq_true, decide_eq_true_eq] at hd
      obtain ⟨⟨_, h2⟩, h3⟩ := hd
      simp only [lieAt, cover, h2, h3]
      by_cases hc : u < p.now + (p.ship i).long
      · rw [if_pos (by simpa using hc), if_neg (by omega), if_pos ⟨hn.1, u0, hc⟩]; omega
      · rw [if_neg (by simpa using hc), if_neg (by omega), if_neg (by omega)]; omega
    · rw [if_neg hd, if_neg hd]; omega
  have e2 : sumTo (fun i => keptAt ((dueL p plan).keep i) u) 4 = sumTo (fun i => keptAt (p.keep i) u) 4 := rfl
  unfold freeOf
  rw [e, e2]
  rw [show (dueL p plan).now = p.now from rfl, show (dueL p plan).shut = p.shut from rfl, if_pos u0, if_pos u0]
  omega

theorem free_early {p q : Port} (h : p.shut = q.shut) (u : Int) (hp : u < p.now) (hq : u < q.now) : freeOf p u = freeOf q u := by
  unfold freeOf; rw [if_neg (by omega), if_neg (by omega), h]

theorem cover_early {s : Ship} {t now u : Int} (ht : t = -1 ∨ now ≤ t) (hu : u < now) : cover s t u = 0 := by
  unfold cover; rw [if_neg (by omega)]

theorem plan_from {p : Port} {plan : List Int} (h : PGood p) (hp : IsPlan p plan) (i : Nat) : plan.getD i (-1) = -1 ∨ (p.now ≤ plan.getD i (-1) ∧ i < p.ships.length ∧ (p.ship i).state = 1 ∧ Fits (prof p plan (key (p.ship i))) (p.ship i).long (p.ship i).wide (plan.getD i (-1))) := by
  by_cases hi : i < p.ships.length
  · by_cases hs : (p.ship i).state = 1
    · rcases First.none_or h.now.1 (hp.first i hi hs) with g | ⟨g1, _, g2⟩
      · exact .inl g
      · exact .inr ⟨g1, hi, hs, g2⟩
    · exact .inl (hp.other i hi hs)
  · left; rw [List.getD_eq_getElem?_getD, List.getElem?_eq_none (by rw [hp.len]; omega)]; rfl

/-- Whoever is due comes in: the port stays good, and the others' plan stays. -/
theorem due_good {p : Port} {plan : List Int} (h : PGood p) (hp : IsPlan p plan) :
    PGood (dueL p plan) ∧ IsPlan (dueL p plan) (notDue p plan) ∧ ∀ i, (notDue p plan).getD i (-1) ≠ p.now := by
  have hn := h.now
  have hlen : (dueL p plan).ships.length = p.ships.length := turn_len _ _
  have hship : ∀ i, i < p.ships.length → (dueL p plan).ship i = if isDue p plan i = true then { p.ship i with state := 3, since := p.now } else p.ship i := fun i hi => turn_ship _ _ i hi
  have hdue : ∀ i, isDue p plan i = true → plan.getD i (-1) = p.now ∧ (p.ship i).state = 1 := fun i hd => by
    simp only [isDue, Bool.and_eq_true, decide_eq_true_eq] at hd; exact ⟨hd.1.2, hd.2⟩
  have hnot : ∀ i, i < p.ships.length → isDue p plan i ≠ true → (p.ship i).state = 1 → plan.getD i (-1) ≠ p.now := fun i hi hd hs e => hd (by
    simp only [isDue, Bool.and_eq_true, decide_eq_true_eq]; exact ⟨⟨by rw [hp.len]; exact hi, e⟩, hs⟩)
  have hkey : ∀ i, i < p.ships.length → key ((dueL p plan).ship i) = key (p.ship i) := fun i hi => by rw [hship i hi]; split <;> rfl
  have hfree : ∀ u, 0 ≤ u → u < 300 → freeOf (dueL p plan) u = freeOf p u - sumTo (fun i => if isDue p plan i = true then cover (p.ship i) (plan.getD i (-1)) u else 0) p.ships.length := by
    intro u u0 u1
    by_cases hu : p.now ≤ u
    · exact due_free h u hu
    · rw [free_early (p := dueL p plan) (q := p) rfl u (show u < p.now by omega) (by omega)]
      rw [sumTo_congr (g := fun _ => 0) _ fun i hi => ?_, sumTo_zero]
      · omega
      · split
        · exact cover_early (now := p.now) (.inr (by rw [(hdue i (by assumption)).1]; exact Int.le_refl _)) (by omega)
        · rfl
  -- what all together leave
  have hrest := rest_room h hp
  -- the others' profile, by what it was
  have hprof : ∀ k u, 0 ≤ u → u < 300 → prof (dueL p plan) (notDue p plan) k u =
      prof p plan k u - sumTo (fun i => if isDue p plan i = true ∧ ¬ key (p.ship i) < k then cover (p.ship i) (plan.getD i (-1)) u else 0) p.ships.length := by
    intro k u u0 u1
    unfold prof
    rw [hfree u u0 u1, hlen]
    have : sumTo (fun i => if isDue p plan i = true then cover (p.ship i) (plan.getD i (-1)) u else 0) p.ships.length +
        sumTo (fun j => if ((dueL p plan).ship j).state = 1 ∧ key ((dueL p plan).ship j) < k then cover ((dueL p plan).ship j) ((notDue p plan).getD j (-1)) u else 0) p.ships.length =
        sumTo (fun j => if (p.ship j).state = 1 ∧ key (p.ship j) < k then cover (p.ship j) (plan.getD j (-1)) u else 0) p.ships.length +
        sumTo (fun i => if isDue p plan i = true ∧ ¬ key (p.ship i) < k then cover (p.ship i) (plan.getD i (-1)) u else 0) p.ships.length := by
      rw [← sumTo_add, ← sumTo_add]
      refine sumTo_congr _ fun i hi => ?_
      rw [hkey i hi, hship i hi, notDue_get]
      by_cases hd : isDue p plan i = true
      · have hs := (hdue i hd).2
        simp only [if_pos hd]
        rw [if_neg (by simp)]
        by_cases hk : key (p.ship i) < k
        · rw [if_pos ⟨hs, hk⟩, if_neg (by simp [hk])]
        · rw [if_neg (by simp [hk]), if_pos ⟨hd, hk⟩]; omega
      · simp only [if_neg hd]
        rw [if_neg (show ¬ (isDue p plan i = true ∧ ¬ key (p.ship i) < k) from fun h => hd h.1)]; omega
    omega
  have good : PGood (dueL p plan) := by
    refine { now := h.now, shut := h.shut, len := by rw [hlen]; exact h.len, next := h.next, ship := fun i hi => ?_, apart := fun i j hij hj => ?_, four := h.four, kept := h.kept, room := fun u u0 u1 => ?_ }
    · rw [hlen] at hi
      obtain ⟨s, q⟩ := h.ship i hi
      rw [hship i hi]
      split
      · rename_i hd
        obtain ⟨d1, d2⟩ := hdue i hd
        have hf : p.now + (p.ship i).long ≤ 300 := by
          rcases plan_from h hp i with g | ⟨_, _, _, g⟩
          · omega
          · have := g.1; omega
        have := s.long
        exact ⟨⟨by simp, s.wide, s.long, s.cls, s.queued, fun _ => ⟨hn.1, Int.le_refl _, by simp only []; show p.now < p.now + (p.ship i).long; omega, hf⟩, fun hh => absurd rfl hh⟩, q⟩
      · exact ⟨s, q⟩
    · rw [hlen] at hj
      rw [hship i (by omega), hship j hj]
      have := h.apart i j hij hj
      split <;> split <;> exact this
    · have := hrest u u0 u1
      rw [hfree u u0 u1]
      unfold rest at this
      have hle : sumTo (fun i => if isDue p plan i = true then cover (p.ship i) (plan.getD i (-1)) u else 0) p.ships.length ≤
          sumTo (fun j => if (p.ship j).state = 1 then cover (p.ship j) (plan.getD j (-1)) u else 0) p.ships.length :=
        sumTo_le _ fun i hi => by
          have hc : 0 ≤ cover (p.ship i) (plan.getD i (-1)) u := cover_nonneg (by have := (h.ship i hi).1.wide; omega)
          by_cases hd : isDue p plan i = true
          · rw [if_pos hd, if_pos (hdue i hd).2]; exact Int.le_refl _
          · rw [if_neg hd]; split <;> omega
      omega
  refine ⟨good, ⟨by simp [notDue, hlen, hp.len], fun i hi hs => ?_, fun i hi hs => ?_⟩, fun i => ?_⟩
  · rw [hlen] at hi
    rw [notDue_get]
    split
    · rfl
    · rename_i hd
      rw [hship i hi, if_neg hd] at hs
      exact hp.other i hi hs
  · rw [hlen] at hi
    have hd : ¬ isDue p plan i = true := fun hd => by rw [hship i hi, if_pos hd] at hs; simp at hs
    rw [hkey i hi, hship i hi, if_neg hd, notDue_get, if_neg hd]
    rw [hship i hi, if_neg hd] at hs
    have hold := hp.first i hi hs
    have hso := (h.ship i hi).1
    have hle : ∀ u, 0 ≤ u → u < 300 → prof (dueL p plan) (notDue p plan) (key (p.ship i)) u ≤ prof p plan (key (p.ship i)) u := fun u u0 u1 => by
      rw [hprof _ u u0 u1]
      have := sumTo_nonneg (f := fun j => if isDue p plan j = true ∧ ¬ key (p.ship j) < key (p.ship i) then cover (p.ship j) (plan.getD j (-1)) u else 0) p.ships.length fun j hj => by
        split
        · exact cover_nonneg (by have := (h.ship j hj).1.wide; omega)
        · omega
      omega
    have nofit : ∀ t, p.now ≤ t → Fits (prof (dueL p plan) (notDue p plan) (key (p.ship i))) (p.ship i).long (p.ship i).wide t → Fits (prof p plan (key (p.ship i))) (p.ship i).long (p.ship i).wide t := fun t ht hf =>
      ⟨hf.1, fun k k0 k1 => Int.le_trans (hf.2 k k0 k1) (hle k (by omega) (by have := hf.1; omega))⟩
    show First _ p.now _ _ _
    rcases hold with ⟨e, g⟩ | ⟨g1, g2, g3⟩
    · exact .inl ⟨e, fun t ht hf => g t ht (nofit t ht hf)⟩
    · refine .inr ⟨g1, ⟨g2.1, fun u u0 u1 => ?_⟩, fun t ht ht2 hf => g3 t ht ht2 (nofit t ht hf)⟩
      have hu : 0 ≤ u ∧ u < 300 := ⟨by omega, by have := g2.1; omega⟩
      have hr := hrest u hu.1 hu.2
      rw [hprof _ u hu.1 hu.2]
      unfold rest at hr
      unfold prof
      have hcov : cover (p.ship i) (plan.getD i (-1)) u = (p.ship i).wide := by unfold cover; rw [if_pos ⟨by omega, u0, u1⟩]
      have hle2 : sumTo (fun j => if (p.ship j).state = 1 ∧ key (p.ship j) < key (p.ship i) then cover (p.ship j) (plan.getD j (-1)) u else 0) p.ships.length +
          sumTo (fun j => if isDue p plan j = true ∧ ¬ key (p.ship j) < key (p.ship i) then cover (p.ship j) (plan.getD j (-1)) u else 0) p.ships.length + (p.ship i).wide ≤
          sumTo (fun j => if (p.ship j).state = 1 then cover (p.ship j) (plan.getD j (-1)) u else 0) p.ships.length := by
        have e1 : sumTo (fun j => if j = i then (p.ship i).wide else 0) p.ships.length = (p.ship i).wide := by rw [sumTo_one, if_pos hi]
        rw [← e1, ← sumTo_add, ← sumTo_add]
        refine sumTo_le _ fun j hj => ?_
        have hc : 0 ≤ cover (p.ship j) (plan.getD j (-1)) u := cover_nonneg (by have := (h.ship j hj).1.wide; omega)
        by_cases hji : j = i
        · subst hji
          rw [if_neg (by omega), if_neg (fun h => hd h.1), if_pos rfl, if_pos hs, hcov]; omega
        · rw [if_neg hji]
          by_cases hk : key (p.ship j) < key (p.ship i)
          · rw [if_neg (show ¬ (isDue p plan j = true ∧ ¬ key (p.ship j) < key (p.ship i)) from fun h => h.2 hk)]
            by_cases hsj : (p.ship j).state = 1
            · rw [if_pos ⟨hsj, hk⟩, if_pos hsj]; omega
            · rw [if_neg (fun h => hsj h.1), if_neg hsj]; omega
          · rw [if_neg (show ¬ ((p.ship j).state = 1 ∧ key (p.ship j) < key (p.ship i)) from fun h => hk h.2)]
            by_cases hdj : isDue p plan j = true
            · rw [if_pos ⟨hdj, hk⟩, if_pos (hdue j hdj).2]; omega
            · rw [if_neg (fun h => hdj h.1)]; split <;> omega
      omega
  · rw [notDue_get]
    split
    · omega
    · rename_i hd
      rcases plan_from h hp i with g | ⟨_, hi, hs, _⟩
      · omega
      · exact hnot i hi hd hs

/-! Time. -/

def laterL (p : Port) : Port := { p.turn fun _ s => if s.state = 3 ∧ s.since + s.long ≤ p.now + 1 then { s with state := 4, since := 0 } else s with now := p.now + 1 }

theorem later_good {p : Port} (h : PGood p) (h1 : p.now + 1 < 300) : PGood (laterL p) ∧ ∀ u, p.now + 1 ≤ u → freeOf (laterL p) u = freeOf p u := by
  have hn := h.now
  have hlen : (laterL p).ships.length = p.ships.length := turn_len _ _
  have hship : ∀ i, i < p.ships.length → (laterL p).ship i = if (p.ship i).state = 3 ∧ (p.ship i).since + (p.ship i).long ≤ p.now + 1 then { p.ship i with state := 4, since := 0 } else p.ship i := fun i hi => turn_ship _ _ i hi
  have hfree : ∀ u, p.now + 1 ≤ u → freeOf (laterL p) u = freeOf p u := by
    intro u hu
    have e : sumTo (fun i => lieAt ((laterL p).ship i) u) (laterL p).ships.length = sumTo (fun i => lieAt (p.ship i) u) p.ships.length := by
      rw [hlen]
      refine sumTo_congr _ fun i hi => ?_
      rw [hship i hi]
      split
      · unfold lieAt; rw [if_neg (by simp), if_neg (by omega)]
      · rfl
    have e2 : sumTo (fun i => keptAt ((laterL p).keep i) u) 4 = sumTo (fun i => keptAt (p.keep i) u) 4 := rfl
    unfold freeOf
    rw [e, e2, show (laterL p).now = p.now + 1 from rfl, show (laterL p).shut = p.shut from rfl, if_pos hu, if_pos (by omega)]
  refine ⟨{ now := ⟨by show 0 ≤ p.now + 1; omega, h1⟩, shut := h.shut, len := by rw [hlen]; exact h.len, next := h.next, ship := fun i hi => ?_, apart := fun i j hij hj => ?_, four := h.four, kept := h.kept, room := fun u u0 u1 => ?_ }, hfree⟩
  · rw [hlen] at hi
    obtain ⟨s, q⟩ := h.ship i hi
    rw [hship i hi]
    split
    · exact ⟨⟨by simp, s.wide, s.long, s.cls, s.queued, fun hh => by simp at hh, fun _ => rfl⟩, q⟩
    · rename_i hc
      refine ⟨⟨s.state, s.wide, s.long, s.cls, s.queued, fun hh => ?_, s.other⟩, q⟩
      have := s.lies hh
      have e : (laterL p).now = p.now + 1 := rfl
      rw [e]; omega
  · rw [hlen] at hj
    rw [hship i (by omega), hship j hj]
    have := h.apart i j hij hj
    split <;> split <;> exact this
  · by_cases hu : p.now + 1 ≤ u
    · rw [hfree u hu]; exact h.room u u0 u1
    · unfold freeOf
      rw [show (laterL p).now = p.now + 1 from rfl, show (laterL p).shut = p.shut from rfl, if_neg (by omega)]
      have := h.shut; omega

/-- TIME ALONE MOVES NOBODY. -/
theorem later_plan {p : Port} {plan : List Int} (h : PGood p) (hp : IsPlan p plan) (h1 : p.now + 1 < 300) (hno : ∀ i, plan.getD i (-1) ≠ p.now) : IsPlan (laterL p) plan := by
  obtain ⟨_, hfree⟩ := later_good h h1
  have hn := h.now
  have hlen : (laterL p).ships.length = p.ships.length := turn_len _ _
  have hship : ∀ i, i < p.ships.length → (laterL p).ship i = if (p.ship i).state = 3 ∧ (p.ship i).since + (p.ship i).long ≤ p.now + 1 then { p.ship i with state := 4, since := 0 } else p.ship i := fun i hi => turn_ship _ _ i hi
  have hsame : ∀ i, i < p.ships.length → (((laterL p).ship i).state = 1 ↔ (p.ship i).state = 1) ∧ ((p.ship i).state = 1 → (laterL p).ship i = p.ship i) := fun i hi => by
    rw [hship i hi]
    split
    · rename_i hc; simp only []; exact ⟨⟨by simp, by omega⟩, by omega⟩
    · exact ⟨Iff.rfl, fun _ => rfl⟩
  have hprof : ∀ k u, p.now + 1 ≤ u → prof (laterL p) plan k u = prof p plan k u := fun k u hu => by
    unfold prof
    rw [hfree u hu, hlen]
    congr 1
    refine sumTo_congr _ fun j hj => ?_
    obtain ⟨g1, g2⟩ := hsame j hj
    by_cases hs : (p.ship j).state = 1
    · rw [g2 hs]
    · rw [if_neg (fun h => hs (g1.1 h.1)), if_neg (fun h => hs h.1)]
  refine ⟨by rw [hlen]; exact hp.len, fun i hi hs => ?_, fun i hi hs => ?_⟩
  · rw [hlen] at hi
    exact hp.other i hi fun h => hs ((hsame i hi).1.2 h)
  · rw [hlen] at hi
    have hs := (hsame i hi).1.1 hs
    rw [(hsame i hi).2 hs]
    have conv : ∀ t, p.now + 1 ≤ t → (Fits (prof (laterL p) plan (key (p.ship i))) (p.ship i).long (p.ship i).wide t ↔ Fits (prof p plan (key (p.ship i))) (p.ship i).long (p.ship i).wide t) := fun t ht =>
      ⟨fun hf => ⟨hf.1, fun k k0 k1 => by rw [← hprof _ k (by omega)]; exact hf.2 k k0 k1⟩, fun hf => ⟨hf.1, fun k k0 k1 => by rw [hprof _ k (by omega)]; exact hf.2 k k0 k1⟩⟩
    show First _ (p.now + 1) _ _ _
    rcases hp.first i hi hs with ⟨e, g⟩ | ⟨g1, g2, g3⟩
    · exact .inl ⟨e, fun t ht hf => g t (by omega) ((conv t ht).1 hf)⟩
    · have := hno i
      exact .inr ⟨by omega, (conv _ (by omega)).2 g2, fun t ht ht2 hf => g3 t (by omega) ht2 ((conv t ht).1 hf)⟩
end Go.Proofs.Ytifmdkcpbajdcaa.Plain
