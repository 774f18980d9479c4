/- A plan that is mended, in plain data: it is the one that is made anew. -/
import Derived.Test.YtifmdkcpbajdcaaPortPlain
namespace Go.Proofs.Ytifmdkcpbajdcaa.Plain

abbrev Dirt := List (Int × Int)

def addD (d : Dirt) (fr to : Int) : Dirt := if fr < to then d ++ [(fr, to)] else d
def meets (d : Dirt) (fr to : Int) : Bool := d.any fun x => decide (x.1 < to) && decide (fr < x.2)

/-- u is dirty. -/
def InD (d : Dirt) (u : Int) : Prop := ∃ x ∈ d, x.1 ≤ u ∧ u < x.2

theorem InD.add {d : Dirt} {u : Int} (fr to : Int) (h : InD d u) : InD (addD d fr to) u := by
  obtain ⟨x, hx, g⟩ := h
  unfold addD; split
  · exact ⟨x, by simp [hx], g⟩
  · exact ⟨x, hx, g⟩

theorem inD_add {d : Dirt} {fr to u : Int} (h : fr ≤ u) (h2 : u < to) : InD (addD d fr to) u := by
  unfold addD; rw [if_pos (by omega)]; exact ⟨(fr, to), by simp, h, h2⟩

theorem not_meets {d : Dirt} {fr to u : Int} (h : meets d fr to = false) (h1 : fr ≤ u) (h2 : u < to) : ¬ InD d u := by
  rintro ⟨x, hx, g1, g2⟩
  simp only [meets, List.any_eq_false] at h
  have := h x hx
  simp at this
  omega

/-! Where two profiles differ. -/

def diff : Prof → Prof → Dirt → Dirt
  | [], _, d => d
  | _ :: _, [], d => d
  | (a, x) :: r, (b, y) :: s, d =>
    if nextAt r < nextAt s then diff r ((b, y) :: s) (if x ≠ y then addD d (max a b) (min (nextAt r) (nextAt s)) else d)
    else if nextAt s < nextAt r then diff ((a, x) :: r) s (if x ≠ y then addD d (max a b) (min (nextAt r) (nextAt s)) else d)
    else diff r s (if x ≠ y then addD d (max a b) (min (nextAt r) (nextAt s)) else d)
termination_by l m _ => l.length + m.length

theorem diff_keeps (l m : Prof) (d : Dirt) (u : Int) (h : InD d u) : InD (diff l m d) u := by
  induction l, m, d using diff.induct with
  | case1 m d => simpa [diff] using h
  | case2 s l d => simpa [diff] using h
  | case3 a x r b y s d hlt ih =>
    rw [diff, if_pos hlt]; apply ih; split; exact h.add _ _; exact h
  | case4 a x r b y s d h1 hlt ih =>
    rw [diff, if_neg h1, if_pos hlt]; apply ih; split; exact h.add _ _; exact h
  | case5 a x r b y s d h1 h2 ih =>
    rw [diff, if_neg h1, if_neg h2]; apply ih; split; exact h.add _ _; exact h

theorem next_gt {a : Int} {r : Prof} (h : WChain a r) (ha : a < 300) : a < nextAt r ∧ nextAt r ≤ 300 := by
  cases r with
  | nil => exact ⟨ha, Int.le_refl _⟩
  | cons s r => obtain ⟨b, y⟩ := s; exact ⟨h.1, by have := h.2.1; simp only [nextAt]; omega⟩

theorem vl_next {a x u : Int} {r : Prof} (h : WChain a r) (hu : u < nextAt r) : vl x r u = x := by
  cases r with
  | nil => rfl
  | cons s r => obtain ⟨b, y⟩ := s; simp only [vl]; simp only [nextAt] at hu; rw [if_neg (by omega)]

theorem vl_head {a x u : Int} {s : Stp} {r : Prof} (_h : WChain a (s :: r)) (hu : s.1 ≤ u) : vl x (s :: r) u = vl s.2 r u := by
  obtain ⟨b, y⟩ := s; simp only [vl]; simp only at hu; rw [if_pos hu]

theorem diff_covers (l m : Prof) (d : Dirt) : ∀ (a x b y : Int) (r s : Prof), l = (a, x) :: r → m = (b, y) :: s → WChain a r → WChain b s → a < 300 → b < 300 →
    ∀ u, max a b ≤ u → u < 300 → vl x r u ≠ vl y s u → InD (diff l m d) u := by
  induction l, m, d using diff.induct with
  | case1 m d => intro a x b y r s e; cases e
  | case2 s l d => intro a x b y r s _ e; cases e
  | case3 a x r b y s d hlt ih =>
    rintro _ _ _ _ _ _ ⟨⟩ ⟨⟩ hr hs ha hb u hu u3 hne
    have n1 := next_gt hr ha
    have n2 := next_gt hs hb
    rw [diff, if_pos hlt]
    by_cases hc : u < nextAt r
    · apply diff_keeps
      rw [vl_next hr hc, vl_next hs (by omega)] at hne
      rw [if_pos hne]; exact inD_add hu (by omega)
    · cases r with
      | nil => simp only [nextAt] at hc; omega
      | cons p r =>
        obtain ⟨c, z⟩ := p
        simp only [nextAt] at hc hlt n1
        refine ih c z b y r s rfl rfl hr.2.2 hs (by omega) hb u (by omega) u3 ?_
        rwa [vl_head hr (by simp only; omega)] at hne
  | case4 a x r b y s d h1 hlt ih =>
    rintro _ _ _ _ _ _ ⟨⟩ ⟨⟩ hr hs ha hb u hu u3 hne
    have n1 := next_gt hr ha
    have n2 := next_gt hs hb
    rw [diff, if_neg h1, if_pos hlt]
    by_cases hc : u < nextAt s
    · apply diff_keeps
      rw [vl_next hr (by omega), vl_next hs hc] at hne
      rw [if_pos hne]; exact inD_add hu (by omega)
    · cases s with
      | nil => simp only [nextAt] at hc; omega
      | cons p s =>
        obtain ⟨c, z⟩ := p
        simp only [nextAt] at hc hlt n2
        refine ih a x c z r s rfl rfl hr hs.2.2 ha (by omega) u (by omega) u3 ?_
        rwa [vl_head hs (by simp only; omega)] at hne
  | case5 a x r b y s d h1 h2 ih =>
    rintro _ _ _ _ _ _ ⟨⟩ ⟨⟩ hr hs ha hb u hu u3 hne
    have n1 := next_gt hr ha
    have n2 := next_gt hs hb
    rw [diff, if_neg h1, if_neg h2]
    by_cases hc : u < nextAt r
    · apply diff_keeps
      rw [vl_next hr hc, vl_next hs (by omega)] at hne
      rw [if_pos hne]; exact inD_add hu (by omega)
    · cases r with
      | nil => simp only [nextAt] at hc; omega
      | cons p r =>
        cases s with
        | nil => simp only [nextAt] at hc h1 h2 n1 n2; omega
        | cons q s =>
          obtain ⟨c, z⟩ := p
          obtain ⟨e, v⟩ := q
          simp only [nextAt] at hc h1 h2 n1 n2
          refine ih c z e v r s rfl rfl hr.2.2 hs.2.2 (by omega) (by omega) u (by omega) u3 ?_
          rwa [vl_head hr (by simp only; omega), vl_head hs (by simp only; omega)] at hne

theorem diff_good {l m : Prof} {d : Dirt} (hl : Good l) (hm : Good m) (u : Int) (u0 : 0 ≤ u) (u1 : u < 300) (h : ¬ InD (diff l m d) u) : val l u = val m u := by
  obtain ⟨x, r, rfl, _, _, hr⟩ := hl
  obtain ⟨y, s, rfl, _, _, hs⟩ := hm
  refine Classical.byContradiction fun hne => h ?_
  exact diff_covers _ _ d 0 x 0 y r s rfl rfl hr.weak hs.weak (by omega) (by omega) u (by omega) u1 hne

theorem diff_self (l : Prof) (d : Dirt) : diff l l d = d := by
  induction l with
  | nil => simp [diff]
  | cons s l ih => obtain ⟨a, x⟩ := s; rw [diff, if_neg (by omega), if_neg (by omega)]; simp [ih]

/-! Mending. -/

def place (plan : List Int) (i : Nat) : Int := plan.getD i (-1)

def freshB (was now : Port) (i : Nat) : Bool :=
  decide (was.ships.length ≤ i) || (decide ((was.ship i).state ≠ 1) || decide ((was.ship i).wide ≠ (now.ship i).wide) || decide ((was.ship i).long ≠ (now.ship i).long)
    || decide ((was.ship i).cls ≠ (now.ship i).cls) || decide ((was.ship i).queued ≠ (now.ship i).queued))

def lostB (was now : Port) (i : Nat) : Bool := decide ((was.ship i).state = 1) && (decide (now.ships.length ≤ i) || decide ((now.ship i).state ≠ 1) || freshB was now i)
def lostL (was now : Port) : List Nat := (List.range was.ships.length).filter (lostB was now)

def leftD (was : Port) (plan : List Int) (d : Dirt) (xs : List Nat) : Dirt :=
  xs.foldl (fun d x => if 0 ≤ place plan x then addD d (place plan x) (place plan x + (was.ship x).long) else d) d

def movedD (was now : Port) (d : Dirt) (i : Nat) (old t : Int) : Dirt :=
  let long := if i < was.ships.length then (was.ship i).long else (now.ship i).long
  let wide := if i < was.ships.length then (was.ship i).wide else (now.ship i).wide
  if old = t ∧ long = (now.ship i).long ∧ wide = (now.ship i).wide then d
  else
    let d := if 0 ≤ old then addD d old (old + long) else d
    if 0 ≤ t then addD d t (t + (now.ship i).long) else d

structure MSt where
  b : Prof
  d : Dirt
  out : List Int
  n : Int

/-- Is one looked at anew? -/
def againB (was now : Port) (plan : List Int) (d : Dirt) (i : Nat) : Bool :=
  freshB was now i || (decide (place plan i < max 0 now.now) && decide (0 ≤ place plan i)) ||
    meets d (max 0 now.now) (if 0 ≤ place plan i then place plan i + (now.ship i).long else 300)

def setT (now : Port) (st : MSt) (i : Nat) (t : Int) : MSt :=
  { st with out := st.out.set i t, b := if 0 ≤ t then (takeL st.b t (t + (now.ship i).long) (now.ship i).wide).1 else st.b }

def mendStep (was now : Port) (plan : List Int) (st : MSt) (i : Nat) : MSt :=
  if againB was now plan st.d i = true then
    setT now { st with n := st.n + 1, d := movedD was now st.d i (place plan i) (fitL st.b (max 0 now.now) (now.ship i).long (now.ship i).wide) } i (fitL st.b (max 0 now.now) (now.ship i).long (now.ship i).wide)
  else setT now st i (place plan i)

def dirt0 (was now : Port) : Dirt := if (baseL was).2 = true ∧ was.now = now.now then diff (baseL was).1 (baseL now).1 [] else addD [] 0 300

def mendL (was now : Port) (plan : List Int) (q : List Nat) : List Int × Int :=
  if (baseL now).2 = true then
    let st := q.foldl (mendStep was now plan) ⟨(baseL now).1, leftD was plan (dirt0 was now) (lostL was now), noneL now.ships.length, 0⟩
    (st.out, st.n)
  else (noneL now.ships.length, 0)

theorem First.agree {f g : Int → Int} {fr long n v : Int} (h : First f fr long n v) (hv : v = -1 ∨ 0 ≤ v) (e : ∀ u, fr ≤ u → u < (if 0 ≤ v then v + long else 300) → f u = g u) : First g fr long n v := by
  rcases h with ⟨rfl, h1⟩ | ⟨a, b, c⟩
  · rw [if_neg (by omega)] at e
    exact .inl ⟨rfl, fun t ht hf => h1 t ht ⟨hf.1, fun k g1 g2 => by have := hf.1; rw [e k (by omega) (by omega)]; exact hf.2 k g1 g2⟩⟩
  · by_cases h0 : 0 ≤ v
    · rw [if_pos h0] at e
      refine .inr ⟨a, ⟨b.1, fun k g1 g2 => by rw [← e k (by omega) (by omega)]; exact b.2 k g1 g2⟩, fun t g1 g2 hf => c t g1 g2 ⟨hf.1, fun k g3 g4 => ?_⟩⟩
      rw [e k (by omega) (by omega)]; exact hf.2 k g3 g4
    · obtain rfl : v = -1 := by omega
      rw [if_neg (by omega)] at e
      refine .inr ⟨a, ⟨b.1, fun k g1 g2 => by have := b.1; rw [← e k (by omega) (by omega)]; exact b.2 k g1 g2⟩, fun t g1 g2 hf => c t g1 g2 ⟨hf.1, fun k g3 g4 => ?_⟩⟩
      have := hf.1
      rw [e k (by omega) (by omega)]; exact hf.2 k g3 g4

theorem leftD_keeps (was : Port) (plan : List Int) (u : Int) (xs : List Nat) : ∀ d, InD d u → InD (leftD was plan d xs) u := by
  induction xs with
  | nil => intro d h; exact h
  | cons x xs ih =>
    intro d h
    simp only [leftD, List.foldl_cons]
    apply ih
    split
    · exact h.add _ _
    · exact h

theorem leftD_covers (was : Port) (plan : List Int) (u : Int) (xs : List Nat) : ∀ d, ∀ x ∈ xs, cover (was.ship x) (place plan x) u ≠ 0 → InD (leftD was plan d xs) u := by
  induction xs with
  | nil => intro d x hx; simp at hx
  | cons y xs ih =>
    intro d x hx hc
    simp only [leftD, List.foldl_cons]
    rcases List.mem_cons.1 hx with rfl | hx
    · apply leftD_keeps
      unfold cover at hc
      split at hc
      · rename_i h; rw [if_pos h.1]; exact inD_add h.2.1 h.2.2
      · exact absurd rfl hc
    · exact ih _ x hx hc

theorem set_same (l : List Int) (i : Nat) (h : l.getD i (-1) = -1) : l.set i (-1) = l := by
  apply List.ext_getElem (by simp)
  intro j h1 h2
  rw [List.getElem_set]
  split
  · rename_i e; subst e
    rw [List.getD_eq_getElem?_getD, List.getElem?_eq_getElem h2] at h
    exact h.symm
  · rfl

theorem getD_set (l : List Int) (i j : Nat) (t : Int) (h : i < l.length) : (l.set i t).getD j (-1) = if j = i then t else l.getD j (-1) := by
  simp only [List.getD_eq_getElem?_getD, List.getElem?_set]
  by_cases hj : i = j
  · subst hj; rw [if_pos rfl, if_pos rfl, if_pos h]; rfl
  · rw [if_neg hj, if_neg (by omega)]

/-- What holds of the mending behind some of the queue. -/
structure MInv (was now : Port) (plan : List Int) (q done r : List Nat) (st : MSt) : Prop where
  good : Good st.b
  v : ∀ u, 0 ≤ u → u < 300 → val st.b u = freeOf now u - (done.map fun j => cover (now.ship j) (st.out.getD j (-1)) u).sum
  len : st.out.length = now.ships.length
  none : ∀ j, j ∉ done → st.out.getD j (-1) = -1
  go : planGo now (baseL now).1 (noneL now.ships.length) q = planGo now st.b st.out r
  base : ∀ u, 0 ≤ u → u < 300 → ¬ InD st.d u → freeOf was u = freeOf now u ∧ was.now = now.now
  lost : ∀ u, 0 ≤ u → u < 300 → ¬ InD st.d u → ∀ j, j < was.ships.length → lostB was now j = true → cover (was.ship j) (place plan j) u = 0
  same : ∀ u, 0 ≤ u → u < 300 → ¬ InD st.d u → ∀ j ∈ done, cover (now.ship j) (st.out.getD j (-1)) u = if freshB was now j = true then 0 else cover (was.ship j) (place plan j) u
  lo : 0 ≤ st.n
  hi : st.n ≤ done.length

theorem fresh_not {was now : Port} {i : Nat} (h : freshB was now i = false) :
    i < was.ships.length ∧ (was.ship i).state = 1 ∧ (was.ship i).wide = (now.ship i).wide ∧ (was.ship i).long = (now.ship i).long ∧ (was.ship i).cls = (now.ship i).cls ∧ (was.ship i).queued = (now.ship i).queued := by
  simp [freshB] at h
  obtain ⟨a, ⟨⟨⟨b, c⟩, d⟩, e⟩, f⟩ := h
  exact ⟨a, b, c, d, e, f⟩

theorem fresh_yes {was now : Port} {i : Nat} (h : freshB was now i = true) (hl : i < was.ships.length) :
    (was.ship i).state ≠ 1 ∨ (was.ship i).wide ≠ (now.ship i).wide ∨ (was.ship i).long ≠ (now.ship i).long ∨ (was.ship i).cls ≠ (now.ship i).cls ∨ (was.ship i).queued ≠ (now.ship i).queued := by
  simp [freshB] at h
  rcases h with h | (((h | h) | h) | h) | h
  · omega
  · exact .inl h
  · exact .inr (.inl h)
  · exact .inr (.inr (.inl h))
  · exact .inr (.inr (.inr (.inl h)))
  · exact .inr (.inr (.inr (.inr h)))

theorem movedD_keeps {was now : Port} {d : Dirt} {i : Nat} {old t u : Int} (h : InD d u) : InD (movedD was now d i old t) u := by
  unfold movedD
  simp only []
  generalize (if i < was.ships.length then (was.ship i).long else (now.ship i).long) = long
  generalize (if i < was.ships.length then (was.ship i).wide else (now.ship i).wide) = wide
  split
  · exact h
  · have h2 : InD (if 0 ≤ old then addD d old (old + long) else d) u := by
      split
      · exact h.add _ _
      · exact h
    split
    · exact h2.add _ _
    · exact h2

theorem key_same {was now : Port} {i : Nat} (h : freshB was now i = false) : key (was.ship i) = key (now.ship i) := by
  obtain ⟨_, _, _, _, a, b⟩ := fresh_not h
  unfold key; rw [a, b]

/-- At what is not dirty the profile behind those that are done is what it was for the next one, if that is no fresh one. -/
theorem minv_old {was now : Port} {plan : List Int} {q r1 r2 : List Nat} {i : Nat} {st : MSt} (hq : IsRank now q) (e : q = r1 ++ i :: r2)
    (hI : MInv was now plan q r1 (i :: r2) st) (hf : freshB was now i = false) (u : Int) (u0 : 0 ≤ u) (u1 : u < 300) (hu : ¬ InD st.d u) :
    val st.b u = prof was plan (key (was.ship i)) u := by
  have hn := hq.nodup
  rw [e] at hn
  have hn1 : r1.Nodup := (List.nodup_append.1 hn).1
  rw [hI.v u u0 u1]
  unfold prof
  rw [(hI.base u u0 u1 hu).1]
  congr 1
  -- both sums over all numbers up to the greater length
  have ext : ∀ (f : Nat → Int) (a k : Nat), (∀ j, a ≤ j → f j = 0) → sumTo f (a + k) = sumTo f a := by
    intro f a k h
    induction k with
    | zero => rfl
    | succ k ih => rw [show a + (k + 1) = (a + k) + 1 from rfl, sumTo, ih, h (a + k) (by omega)]; omega
  have e1 : (r1.map fun j => cover (now.ship j) (st.out.getD j (-1)) u).sum = (r1.map fun j => if freshB was now j = true then 0 else cover (was.ship j) (place plan j) u).sum := by
    congr 1
    exact List.map_congr_left fun j hj => hI.same u u0 u1 hu j hj
  rw [e1, sum_list _ now.ships.length r1 hn1 fun j hj => ((rank_ahead hq e j).1 hj).1]
  generalize hM : max now.ships.length was.ships.length = M
  have hA := ext (fun j => if j ∈ r1 then if freshB was now j = true then 0 else cover (was.ship j) (place plan j) u else 0) now.ships.length (M - now.ships.length)
    (fun j hj => by rw [if_neg fun hm => by have := ((rank_ahead hq e j).1 hm).1; omega])
  rw [show now.ships.length + (M - now.ships.length) = M by omega] at hA
  rw [← hA]
  have hB := ext (fun j => if j < was.ships.length ∧ (was.ship j).state = 1 ∧ key (was.ship j) < key (was.ship i) then cover (was.ship j) (plan.getD j (-1)) u else 0) was.ships.length (M - was.ships.length)
    (fun j hj => by rw [if_neg (by omega)])
  rw [show was.ships.length + (M - was.ships.length) = M by omega] at hB
  have hB2 : sumTo (fun j => if (was.ship j).state = 1 ∧ key (was.ship j) < key (was.ship i) then cover (was.ship j) (plan.getD j (-1)) u else 0) was.ships.length =
      sumTo (fun j => if j < was.ships.length ∧ (was.ship j).state = 1 ∧ key (was.ship j) < key (was.ship i) then cover (was.ship j) (plan.getD j (-1)) u else 0) was.ships.length :=
    sumTo_congr _ fun j hj => by
      by_cases hc : (was.ship j).state = 1 ∧ key (was.ship j) < key (was.ship i)
      · rw [if_pos hc, if_pos ⟨hj, hc⟩]
      · rw [if_neg hc, if_neg fun h => hc h.2]
  rw [hB2, ← hB]
  refine sumTo_congr _ fun j _ => ?_
  by_cases hfr : freshB was now j = true
  · -- a fresh one: lost from the old queue
    have hz : (if j ∈ r1 then if freshB was now j = true then (0 : Int) else cover (was.ship j) (place plan j) u else 0) = 0 := by rw [if_pos hfr]; simp
    rw [hz]
    by_cases hc : j < was.ships.length ∧ (was.ship j).state = 1 ∧ key (was.ship j) < key (was.ship i)
    · rw [if_pos hc]
      exact (hI.lost u u0 u1 hu j hc.1 (by simp [lostB, hc.2.1, hfr])).symm
    · rw [if_neg hc]
  · have hfr' : freshB was now j = false := by simpa using hfr
    obtain ⟨g1, g2, _⟩ := fresh_not hfr'
    have hk := key_same hfr'
    have hki := key_same hf
    rw [if_neg hfr]
    by_cases hw : j < now.ships.length ∧ (now.ship j).state = 1
    · by_cases hc : key (was.ship j) < key (was.ship i)
      · rw [if_pos ((rank_ahead hq e j).2 ⟨hw.1, hw.2, by omega⟩), if_pos ⟨g1, g2, hc⟩]; rfl
      · rw [if_neg fun hm => by have := ((rank_ahead hq e j).1 hm).2.2; omega, if_neg (by omega)]
    · rw [if_neg fun hm => hw ⟨((rank_ahead hq e j).1 hm).1, ((rank_ahead hq e j).1 hm).2.1⟩]
      by_cases hc : j < was.ships.length ∧ (was.ship j).state = 1 ∧ key (was.ship j) < key (was.ship i)
      · rw [if_pos hc]
        refine (hI.lost u u0 u1 hu j hc.1 ?_).symm
        by_cases hl : now.ships.length ≤ j
        · simp [lostB, hc.2.1, hl]
        · simp [lostB, hc.2.1, show ¬ (now.ship j).state = 1 from fun h => hw ⟨by omega, h⟩]
      · rw [if_neg hc]

theorem minv_step {was now : Port} {plan : List Int} {q r1 r2 : List Nat} {i : Nat} {st : MSt} (hwas : PGood was) (hnow : PGood now) (hp : IsPlan was plan) (hq : IsRank now q) (e : q = r1 ++ i :: r2)
    (hI : MInv was now plan q r1 (i :: r2) st) : MInv was now plan q (r1 ++ [i]) r2 (mendStep was now plan st i) := by
  have hmi := (hq.mem i).1 (by rw [e]; simp)
  obtain ⟨hso, _⟩ := hnow.ship i hmi.1
  have hn := hq.nodup
  rw [e] at hn
  have hni : i ∉ r1 := fun hm => (List.nodup_append.1 hn).2.2 i hm i (by simp) rfl
  have em : max 0 now.now = now.now := by have := hnow.now; omega
  have hN := hnow.now
  have hfit := fitL_first (n := (now.ship i).wide) (fr := now.now) hI.good hN.1 hso.long.1 hso.long.2 (by have := hso.wide; omega)
  -- whatever is chosen is the first time
  have key1 : againB was now plan st.d i = false → place plan i = fitL st.b now.now (now.ship i).long (now.ship i).wide := by
    intro ha
    simp only [againB, Bool.or_eq_false_iff, Bool.and_eq_false_iff, decide_eq_false_iff_not, em] at ha
    obtain ⟨⟨hf, h2⟩, h3⟩ := ha
    obtain ⟨g1, g2, g3, g4, _⟩ := fresh_not hf
    have hold := hp.first i g1 g2
    have hrange : place plan i = -1 ∨ 0 ≤ place plan i := by
      rcases First.none_or hwas.now.1 hold with g | ⟨_, g, _⟩
      · exact .inl g
      · exact .inr g
    have hend : now.now < (if 0 ≤ place plan i then place plan i + (now.ship i).long else 300) := by
      have := hso.long
      split <;> omega
    have hbase := hI.base now.now hN.1 hN.2 (not_meets h3 (Int.le_refl _) hend)
    have hE : (if 0 ≤ place plan i then place plan i + (now.ship i).long else 300) ≤ 300 := by
      split
      · rename_i h0
        rcases First.none_or hwas.now.1 hold with g | ⟨_, _, g⟩
        · have : place plan i = -1 := g
          omega
        · have h := g.1; rw [g4] at h; exact h
      · omega
    rw [g3, g4, hbase.2] at hold
    have := hold.agree (g := val st.b) hrange fun u u0 u1 => by
      have hE' : u < 300 := by
        have : (if 0 ≤ plan.getD i (-1) then plan.getD i (-1) + (now.ship i).long else 300) ≤ 300 := hE
        omega
      rw [minv_old hq e hI hf u (by omega) hE' (not_meets h3 u0 u1)]
    exact First.unique hN.1 (fun _ _ _ => rfl) this hfit
  -- the step, whatever the dirt is
  have main : ∀ (d : Dirt) (n : Int), 0 ≤ n → n ≤ r1.length + 1 → (∀ u, InD st.d u → InD d u) →
      (∀ u, 0 ≤ u → u < 300 → ¬ InD d u → cover (now.ship i) (fitL st.b now.now (now.ship i).long (now.ship i).wide) u = if freshB was now i = true then 0 else cover (was.ship i) (place plan i) u) →
      MInv was now plan q (r1 ++ [i]) r2 (setT now { st with n := n, d := d } i (fitL st.b now.now (now.ship i).long (now.ship i).wide)) := by
    intro d n n0 n1 hd hcov
    have hgo := hI.go
    rw [planGo, em] at hgo
    generalize ht : fitL st.b now.now (now.ship i).long (now.ship i).wide = t at *
    have hset : ∀ j, (st.out.set i t).getD j (-1) = if j = i then t else st.out.getD j (-1) := fun j => getD_set _ _ _ _ (by rw [hI.len]; exact hmi.1)
    have hout : ∀ j, j ∈ r1 → (st.out.set i t).getD j (-1) = st.out.getD j (-1) := fun j hj => by rw [hset, if_neg (by rintro rfl; exact hni hj)]
    have hsum : ∀ u, ((r1 ++ [i]).map fun j => cover (now.ship j) ((st.out.set i t).getD j (-1)) u).sum = (r1.map fun j => cover (now.ship j) (st.out.getD j (-1)) u).sum + cover (now.ship i) t u := by
      intro u
      rw [List.map_append, List.sum_append]
      have : (r1.map fun j => cover (now.ship j) ((st.out.set i t).getD j (-1)) u) = r1.map fun j => cover (now.ship j) (st.out.getD j (-1)) u := List.map_congr_left fun j hj => by rw [hout j hj]
      rw [this]; simp only [List.map_cons, List.map_nil, List.sum_cons, List.sum_nil]; rw [hset, if_pos rfl]; omega
    have hst : Good (setT now { st with n := n, d := d } i t).b ∧ ∀ u, 0 ≤ u → u < 300 → val (setT now { st with n := n, d := d } i t).b u = val st.b u - cover (now.ship i) t u := by
      unfold setT
      by_cases h0 : 0 ≤ t
      · simp only [if_pos h0]
        obtain ⟨f1, f2⟩ : now.now ≤ t ∧ Fits (val st.b) (now.ship i).long (now.ship i).wide t := by
          rcases First.none_or hN.1 hfit with g | ⟨g1, _, g2⟩
          · omega
          · exact ⟨g1, g2⟩
        have hx : (⟨t, t + (now.ship i).long, (now.ship i).wide⟩ : Item).ok := ⟨h0, by have := hso.long; simp only []; omega, f2.1, by have := hso.wide; simp only []; omega, hso.wide.2⟩
        obtain ⟨a1, a2, _⟩ := takeL_good hI.good hx
        dsimp only at a1 a2
        have hat : ∀ u, (⟨t, t + (now.ship i).long, (now.ship i).wide⟩ : Item).at u = cover (now.ship i) t u := fun u => by
          simp only [Item.at, cover]
          by_cases hc : t ≤ u ∧ u < t + (now.ship i).long
          · rw [if_pos hc, if_pos ⟨h0, hc⟩]
          · rw [if_neg hc, if_neg (by omega)]
        simp only [hat] at a1 a2
        exact a2 (a1.2 fun u u0 u1 => by
          have := val_range hI.good u
          unfold cover; split
          · have := f2.2 u (by omega) (by omega); omega
          · omega)
      · simp only [if_neg h0]
        exact ⟨hI.good, fun u _ _ => by rw [cover_neg (by omega)]; omega⟩
    refine ⟨hst.1, fun u u0 u1 => ?_, ?_, fun j hj => ?_, ?_, fun u u0 u1 hu => hI.base u u0 u1 fun h => hu (hd u h), fun u u0 u1 hu => hI.lost u u0 u1 fun h => hu (hd u h), fun u u0 u1 hu j hj => ?_, n0, ?_⟩
    · rw [hst.2 u u0 u1, hI.v u u0 u1]
      show _ = freeOf now u - ((r1 ++ [i]).map fun j => cover (now.ship j) ((st.out.set i t).getD j (-1)) u).sum
      rw [hsum]; omega
    · show (st.out.set i t).length = _
      rw [List.length_set]; exact hI.len
    · show (st.out.set i t).getD j (-1) = -1
      rw [hset, if_neg (by rintro rfl; exact hj (by simp))]
      exact hI.none j fun h => hj (by simp [h])
    · rw [hgo]
      unfold setT
      by_cases h0 : 0 ≤ t
      · simp only [if_pos h0]
      · simp only [if_neg h0]
        have : t = -1 := by rcases First.none_or hN.1 hfit with g | ⟨_, g1, _⟩ <;> omega
        rw [this, set_same _ _ (hI.none i hni)]
    · show cover (now.ship j) ((st.out.set i t).getD j (-1)) u = _
      rcases List.mem_append.1 hj with hj | hj
      · rw [hout j hj]; exact hI.same u u0 u1 (fun h => hu (hd u h)) j hj
      · have : j = i := by simpa using hj
        subst this
        rw [hset, if_pos rfl]; exact hcov u u0 u1 hu
    · show n ≤ _
      rw [List.length_append]; simpa using n1
  unfold mendStep
  rw [em]
  by_cases ha : againB was now plan st.d i = true
  · rw [if_pos ha]
    refine main _ _ (by have := hI.lo; omega) (by have := hI.hi; omega) (fun u => movedD_keeps) fun u u0 u1 hu => ?_
    generalize fitL st.b now.now (now.ship i).long (now.ship i).wide = t at *
    have ht : t = -1 ∨ 0 ≤ t := by rcases First.none_or hN.1 hfit with g | ⟨_, g, _⟩; exact .inl g; exact .inr g
    have hu0 : ¬ InD st.d u := fun h => hu (movedD_keeps h)
    unfold movedD at hu
    simp only [] at hu
    by_cases hlen : i < was.ships.length
    · simp only [if_pos hlen] at hu
      by_cases hsame : place plan i = t ∧ (was.ship i).long = (now.ship i).long ∧ (was.ship i).wide = (now.ship i).wide
      · have hcw : cover (now.ship i) t u = cover (was.ship i) (place plan i) u := by unfold cover; rw [hsame.1, hsame.2.1, hsame.2.2]
        by_cases hfr : freshB was now i = true
        · rw [if_pos hfr, hcw]
          by_cases hst : (was.ship i).state = 1
          · exact hI.lost u u0 u1 hu0 i hlen (by simp [lostB, hst, hfr])
          · have : place plan i = -1 := hp.other i hlen hst
            exact cover_neg (by omega)
        · rw [if_neg hfr, hcw]
      · rw [if_neg hsame] at hu
        have h1 : cover (now.ship i) t u = 0 := by
          unfold cover
          split
          · rename_i hc
            rw [if_pos hc.1] at hu
            exact absurd (inD_add hc.2.1 hc.2.2) hu
          · rfl
        have h2 : cover (was.ship i) (place plan i) u = 0 := by
          unfold cover
          split
          · rename_i hc
            rw [if_pos hc.1] at hu
            refine absurd ?_ hu
            split
            · exact (inD_add hc.2.1 hc.2.2).add _ _
            · exact inD_add hc.2.1 hc.2.2
          · rfl
        rw [h1]; split
        · rfl
        · exact h2.symm
    · simp only [if_neg hlen] at hu
      have hfr : freshB was now i = true := by simp [freshB, show was.ships.length ≤ i by omega]
      have hpl : place plan i = -1 := by
        unfold place
        rw [List.getD_eq_getElem?_getD, List.getElem?_eq_none (by rw [hp.len]; omega)]; rfl
      rw [if_pos hfr]
      unfold cover
      split
      · rename_i hc
        rw [if_neg (by rw [hpl]; omega), if_pos hc.1] at hu
        exact absurd (inD_add hc.2.1 hc.2.2) hu
      · rfl
  · rw [if_neg ha]
    have ha' : againB was now plan st.d i = false := by simpa using ha
    have hk := key1 ha'
    rw [hk]
    refine main st.d st.n hI.lo (by have := hI.hi; omega) (fun u h => h) fun u u0 u1 hu => ?_
    rw [← hk]
    simp only [againB, Bool.or_eq_false_iff] at ha'
    obtain ⟨⟨hf, _⟩, _⟩ := ha'
    obtain ⟨_, _, g3, g4, _⟩ := fresh_not hf
    rw [hf, if_neg (by simp)]
    unfold cover; rw [g3, g4]

theorem minv_all {was now : Port} {plan : List Int} {q : List Nat} (hwas : PGood was) (hnow : PGood now) (hp : IsPlan was plan) (hq : IsRank now q) : ∀ (r done : List Nat) (st : MSt), q = done ++ r → MInv was now plan q done r st →
    MInv was now plan q q [] (r.foldl (mendStep was now plan) st) := by
  intro r
  induction r with
  | nil => intro done st e h; rw [List.append_nil] at e; subst e; exact h
  | cons i r ih =>
    intro done st e h
    rw [List.foldl_cons]
    exact ih (done ++ [i]) _ (by rw [e]; simp) (minv_step hwas hnow hp hq e h)

/-- MENDED IS MADE ANEW. -/
theorem mend_spec {was now : Port} {plan : List Int} {q : List Nat} (hwas : PGood was) (hnow : PGood now) (hp : IsPlan was plan) (hq : IsRank now q) :
    (mendL was now plan q).1 = planL now q ∧ 0 ≤ (mendL was now plan q).2 ∧ (mendL was now plan q).2 ≤ q.length := by
  have hb := (base_good hnow.toFair).1.2 hnow.room
  obtain ⟨g1, g2⟩ := (base_good hnow.toFair).2 hb
  have hbw := (base_good hwas.toFair).1.2 hwas.room
  obtain ⟨w1, w2⟩ := (base_good hwas.toFair).2 hbw
  have h0 : MInv was now plan q [] q ⟨(baseL now).1, leftD was plan (dirt0 was now) (lostL was now), noneL now.ships.length, 0⟩ := by
    refine ⟨g1, fun u u0 u1 => by simp [g2 u u0 u1], by simp [noneL], fun j _ => getD_none _ _, rfl, fun u u0 u1 hu => ?_, fun u u0 u1 hu j hj hl => ?_, fun u _ _ _ j hj => by simp at hj, Int.le_refl _, by simp⟩
    · have hu : ¬ InD (dirt0 was now) u := fun h => hu (leftD_keeps _ _ _ _ _ h)
      unfold dirt0 at hu
      by_cases hc : was.now = now.now
      · rw [if_pos ⟨hbw, hc⟩] at hu
        refine ⟨?_, hc⟩
        rw [← w2 u u0 u1, ← g2 u u0 u1]
        exact diff_good w1 g1 u u0 u1 hu
      · rw [if_neg (fun h => hc h.2)] at hu
        exact absurd (inD_add u0 u1) hu
    · refine Classical.byContradiction fun hc => hu (leftD_covers was plan u _ _ j ?_ hc)
      simp only [lostL, List.mem_filter, List.mem_range]
      exact ⟨hj, hl⟩
  have hE := minv_all hwas hnow hp hq q [] _ rfl h0
  unfold mendL planL
  rw [if_pos hb, if_pos hb]
  refine ⟨?_, hE.lo, hE.hi⟩
  rw [hE.go]
  rfl

/-- Where nothing has changed nobody is looked at. -/
theorem mend_idle {p : Port} {plan : List Int} {q : List Nat} (h : PGood p) (hp : IsPlan p plan) (hq : IsRank p q) : (mendL p p plan q).2 = 0 := by
  have hb := (base_good h.toFair).1.2 h.room
  have hfresh : ∀ i, i < p.ships.length → (p.ship i).state = 1 → freshB p p i = false := fun i hi hs => by simp [freshB, hi, hs]
  have hlost : lostL p p = [] := by
    simp only [lostL, List.filter_eq_nil_iff, List.mem_range]
    intro i hi
    by_cases hs : (p.ship i).state = 1
    · simp [lostB, hs, hfresh i hi hs, hi]
    · simp [lostB, hs]
  have hd : dirt0 p p = [] := by unfold dirt0; rw [if_pos ⟨hb, rfl⟩, diff_self]
  unfold mendL
  rw [if_pos hb, hlost, hd]
  have : ∀ (r : List Nat) (st : MSt), (∀ i ∈ r, i ∈ q) → st.d = [] → (r.foldl (mendStep p p plan) st).n = st.n := by
    intro r
    induction r with
    | nil => intro st _ _; rfl
    | cons i r ih =>
      intro st hr hst
      have hm := (hq.mem i).1 (hr i (by simp))
      have hno : againB p p plan st.d i = false := by
        have hf := hp.first i hm.1 hm.2
        simp only [againB, hfresh i hm.1 hm.2, hst, meets, List.any_nil, Bool.or_false, Bool.false_or, Bool.and_eq_false_iff, decide_eq_false_iff_not]
        have e : max 0 p.now = p.now := by have := h.now; omega
        rw [e]
        rcases First.none_or h.now.1 hf with g | ⟨g, _⟩
        · right; have : place plan i = -1 := g
          omega
        · left; have : p.now ≤ place plan i := g
          omega
      rw [List.foldl_cons, ih _ (fun j hj => hr j (by simp [hj])) (by unfold mendStep; rw [hno]; exact hst)]
      unfold mendStep; rw [hno]; rfl
  exact this q _ (fun i hi => hi) rfl
end Go.Proofs.Ytifmdkcpbajdcaa.Plain
