/- Ports as plain data: what is free of them, how ships are ranked, what a plan is, that there is one alone. -/
import Derived.Test.YtifmdkcpbajdcaaSpanPlain
namespace Go.Proofs.Ytifmdkcpbajdcaa.Plain

structure Ship where
  state : Int
  wide : Int
  long : Int
  cls : Int
  since : Int
  queued : Int

structure Kept where
  wide : Int
  fr : Int
  to : Int

structure Port where
  now : Int
  ships : List Ship
  kept : List Kept
  shut : Int
  next : Int

def Ship.zero : Ship := ⟨0, 0, 0, 0, 0, 0⟩
def Kept.zero : Kept := ⟨0, 0, 0⟩
def Port.zero : Port := ⟨0, [], [Kept.zero, Kept.zero, Kept.zero, Kept.zero], 0, 0⟩

def Port.ship (p : Port) (i : Nat) : Ship := p.ships.getD i Ship.zero
def Port.keep (p : Port) (i : Nat) : Kept := p.kept.getD i Kept.zero

/-- The sum of the first n numbers of f. -/
def sumTo (f : Nat → Int) : Nat → Int
  | 0 => 0
  | n + 1 => sumTo f n + f n

theorem sumTo_congr {f g : Nat → Int} (n : Nat) (h : ∀ i, i < n → f i = g i) : sumTo f n = sumTo g n := by
  induction n with
  | zero => rfl
  | succ n ih => simp only [sumTo]; rw [ih fun i hi => h i (by omega), h n (by omega)]

theorem sumTo_zero (n : Nat) : sumTo (fun _ => 0) n = 0 := by
  induction n with
  | zero => rfl
  | succ n ih => simp only [sumTo]; omega

theorem sumTo_add (f g : Nat → Int) (n : Nat) : sumTo (fun i => f i + g i) n = sumTo f n + sumTo g n := by
  induction n with
  | zero => rfl
  | succ n ih => simp only [sumTo]; omega

theorem sumTo_le {f g : Nat → Int} (n : Nat) (h : ∀ i, i < n → f i ≤ g i) : sumTo f n ≤ sumTo g n := by
  induction n with
  | zero => exact Int.le_refl _
  | succ n ih => simp only [sumTo]; have := ih fun i hi => h i (by omega); have := h n (by omega); omega

theorem sumTo_nonneg {f : Nat → Int} (n : Nat) (h : ∀ i, i < n → 0 ≤ f i) : 0 ≤ sumTo f n := by
  have := sumTo_le (f := fun _ => 0) n h; rwa [sumTo_zero] at this

theorem sumTo_one (a : Nat) (v : Int) (n : Nat) : sumTo (fun i => if i = a then v else 0) n = if a < n then v else 0 := by
  induction n with
  | zero => rfl
  | succ n ih =>
    simp only [sumTo, ih]
    by_cases h : a < n
    · rw [if_pos h, if_neg (by omega), if_pos (by omega)]; omega
    · rw [if_neg h]
      by_cases h2 : n = a
      · rw [if_pos h2, if_pos (by omega)]; omega
      · rw [if_neg h2, if_neg (by omega)]; omega

/-- A sum over a list of numbers, each once, as a sum over all. -/
theorem sum_list (f : Nat → Int) (n : Nat) (l : List Nat) : l.Nodup → (∀ j ∈ l, j < n) → (l.map f).sum = sumTo (fun j => if j ∈ l then f j else 0) n := by
  induction l with
  | nil => intro _ _; simp only [List.map_nil, List.sum_nil, List.not_mem_nil, if_false]; rw [sumTo_zero]
  | cons a l ih =>
    intro hn hl
    have hn := List.nodup_cons.1 hn
    rw [List.map_cons, List.sum_cons, ih hn.2 fun j hj => hl j (by simp [hj])]
    have ha := hl a (by simp)
    have e : ∀ j, j < n → (if j ∈ a :: l then f j else 0) = (if j = a then f a else 0) + (if j ∈ l then f j else 0) := by
      intro j _
      by_cases h : j = a
      · subst h; simp [hn.1]
      · simp [h]
    rw [sumTo_congr n e, sumTo_add, sumTo_one, if_pos ha]

/-! What is free. -/

def lieAt (s : Ship) (u : Int) : Int := if s.state = 3 ∧ u < s.since + s.long then s.wide else 0
def keptAt (k : Kept) (u : Int) : Int := if k.fr ≤ u ∧ u < k.to then k.wide else 0

def freeOf (p : Port) (u : Int) : Int :=
  16 - p.shut - if p.now ≤ u then sumTo (fun i => lieAt (p.ship i) u) p.ships.length + sumTo (fun i => keptAt (p.keep i) u) 4 else 0

structure ShipOk (s : Ship) (now : Int) : Prop where
  state : 1 ≤ s.state ∧ s.state ≤ 4
  wide : 1 ≤ s.wide ∧ s.wide ≤ 16
  long : 1 ≤ s.long ∧ s.long ≤ 300
  cls : 0 ≤ s.cls ∧ s.cls ≤ 3
  queued : 0 ≤ s.queued
  lies : s.state = 3 → 0 ≤ s.since ∧ s.since ≤ now ∧ now < s.since + s.long ∧ s.since + s.long ≤ 300
  other : s.state ≠ 3 → s.since = 0

def KeptOk (k : Kept) : Prop := (k.wide = 0 ∧ k.fr = 0 ∧ k.to = 0) ∨ (1 ≤ k.wide ∧ k.wide ≤ 16 ∧ 0 ≤ k.fr ∧ k.fr < k.to ∧ k.to ≤ 300)

/-- All that a good port is but for what is free of it. -/
structure Fair (p : Port) : Prop where
  now : 0 ≤ p.now ∧ p.now < 300
  shut : 0 ≤ p.shut ∧ p.shut ≤ 16
  len : p.ships.length ≤ 14
  next : 0 ≤ p.next ∧ p.next ≤ 1048576
  ship : ∀ i, i < p.ships.length → ShipOk (p.ship i) p.now ∧ (p.ship i).queued < p.next
  apart : ∀ i j, i < j → j < p.ships.length → (p.ship i).queued ≠ (p.ship j).queued
  four : p.kept.length = 4
  kept : ∀ i, i < 4 → KeptOk (p.keep i)

structure PGood (p : Port) : Prop extends Fair p where
  room : ∀ u, 0 ≤ u → u < 300 → 0 ≤ freeOf p u

/-! Taking many. -/

structure Item where
  fr : Int
  to : Int
  w : Int

def Item.at (x : Item) (u : Int) : Int := if x.fr ≤ u ∧ u < x.to then x.w else 0
def Item.ok (x : Item) : Prop := 0 ≤ x.fr ∧ x.fr ≤ x.to ∧ x.to ≤ 300 ∧ 0 ≤ x.w ∧ x.w ≤ 16

def takeL (l : Prof) (fr to n : Int) : Prof × Bool := if 0 ≤ n ∧ n ≤ 16 then addL l fr to (-n) else (l, false)
def giveL (l : Prof) (fr to n : Int) : Prof × Bool := if 0 ≤ n ∧ n ≤ 16 then addL l fr to n else (l, false)

def takes (b : Prof × Bool) (xs : List Item) : Prof × Bool := xs.foldl (fun b x => if b.2 = true then takeL b.1 x.fr x.to x.w else b) b

theorem takes_no (l : Prof) (xs : List Item) : takes (l, false) xs = (l, false) := by
  induction xs with
  | nil => rfl
  | cons x xs ih => simpa [takes] using ih

theorem takeL_good {l : Prof} {x : Item} (hl : Good l) (hx : x.ok) :
    ((takeL l x.fr x.to x.w).2 = true ↔ ∀ u, 0 ≤ u → u < 300 → 0 ≤ val l u - x.at u) ∧
    ((takeL l x.fr x.to x.w).2 = true → Good (takeL l x.fr x.to x.w).1 ∧ ∀ u, 0 ≤ u → u < 300 → val (takeL l x.fr x.to x.w).1 u = val l u - x.at u) ∧
    ((takeL l x.fr x.to x.w).2 = false → (takeL l x.fr x.to x.w).1 = l) := by
  obtain ⟨h0, h1, h2, h3, h4⟩ := hx
  unfold takeL
  rw [if_pos ⟨h3, h4⟩]
  obtain ⟨a1, a2, a3⟩ := addL_good (n := -x.w) hl h0 h1 h2
  refine ⟨?_, fun h => ⟨(a2 h).1, fun u g1 g2 => ?_⟩, a3⟩
  · rw [a1]
    constructor
    · intro h u g1 g2
      have := val_range hl u
      unfold Item.at; split
      · have := h u (by omega) (by omega); omega
      · omega
    · intro h u g1 g2
      have := h u (by omega) (by omega)
      have := val_range hl u
      unfold Item.at at *
      rw [if_pos ⟨g1, g2⟩] at *; omega
  · rw [(a2 h).2 u g1 g2]
    unfold Item.at; split <;> omega

theorem Item.at_nonneg {x : Item} (h : x.ok) (u : Int) : 0 ≤ x.at u := by unfold Item.at; split; exact h.2.2.2.1; omega

theorem takes_good (xs : List Item) : ∀ {l : Prof}, Good l → (∀ x ∈ xs, x.ok) →
    ((takes (l, true) xs).2 = true ↔ ∀ u, 0 ≤ u → u < 300 → 0 ≤ val l u - (xs.map (·.at u)).sum) ∧
    ((takes (l, true) xs).2 = true → Good (takes (l, true) xs).1 ∧ ∀ u, 0 ≤ u → u < 300 → val (takes (l, true) xs).1 u = val l u - (xs.map (·.at u)).sum) := by
  induction xs with
  | nil =>
    intro l hl _
    refine ⟨⟨fun _ u _ _ => ?_, fun _ => rfl⟩, fun _ => ⟨hl, fun u _ _ => ?_⟩⟩
    · have := val_range hl u; simp; omega
    · simp [takes]
  | cons x xs ih =>
    intro l hl hx
    obtain ⟨a1, a2, a3⟩ := takeL_good hl (hx x (by simp))
    have hsum : ∀ u, 0 ≤ (xs.map (·.at u)).sum := by
      intro u
      have : ∀ (ys : List Item), (∀ x ∈ ys, x.ok) → 0 ≤ (ys.map (·.at u)).sum := by
        intro ys
        induction ys with
        | nil => intro _; simp
        | cons y ys ih2 => intro h; have := Item.at_nonneg (h y (by simp)) u; have := ih2 fun z hz => h z (by simp [hz]); simp; omega
      exact this xs fun z hz => hx z (by simp [hz])
    have e : takes (l, true) (x :: xs) = takes (takeL l x.fr x.to x.w) xs := by simp [takes]
    rw [e]
    cases hb : (takeL l x.fr x.to x.w).2 with
    | true =>
      have ep : takeL l x.fr x.to x.w = ((takeL l x.fr x.to x.w).1, true) := Prod.ext rfl hb
      obtain ⟨g1, g2⟩ := a2 hb
      obtain ⟨i1, i2⟩ := ih g1 fun z hz => hx z (by simp [hz])
      rw [ep]
      simp only [List.map_cons, List.sum_cons]
      refine ⟨?_, fun h => ⟨(i2 h).1, fun u u0 u1 => ?_⟩⟩
      · rw [i1]
        constructor
        · intro h u u0 u1; have := h u u0 u1; rw [g2 u u0 u1] at this; omega
        · intro h u u0 u1; have := h u u0 u1; rw [g2 u u0 u1]; omega
      · rw [(i2 h).2 u u0 u1, g2 u u0 u1]; omega
    | false =>
      have ep : takeL l x.fr x.to x.w = ((takeL l x.fr x.to x.w).1, false) := Prod.ext rfl hb
      rw [ep, takes_no]
      simp only [List.map_cons, List.sum_cons]
      refine ⟨⟨by simp, fun h => ?_⟩, by simp⟩
      have := a1.2 fun u u0 u1 => by have := h u u0 u1; have := hsum u; omega
      rw [hb] at this; exact this

theorem sumTo_cons (f : Nat → Int) (n : Nat) : sumTo f (n + 1) = f 0 + sumTo (fun i => f (i + 1)) n := by
  induction n with
  | zero => simp [sumTo]
  | succ n ih => rw [sumTo, ih]; simp only [sumTo]; omega

theorem sum_filterMap {α β : Type} (f : α → Option β) (g : β → Int) (d : α) (l : List α) :
    ((l.filterMap f).map g).sum = sumTo (fun i => (f (l.getD i d)).elim 0 g) l.length := by
  induction l with
  | nil => rfl
  | cons a l ih =>
    rw [List.length_cons, sumTo_cons]
    simp only [List.getD_cons_zero, List.getD_cons_succ]
    rw [← ih]
    cases h : f a <;> simp [h]

theorem First.congr {f g : Int → Int} {fr long n v : Int} (h0 : 0 ≤ fr) (h : ∀ t, 0 ≤ t → t < 300 → f t = g t) (hf : First f fr long n v) : First g fr long n v := by
  have conv : ∀ t, fr ≤ t → (Fits f long n t ↔ Fits g long n t) := fun t ht =>
    ⟨fun h' => ⟨h'.1, fun k hk hk2 => by have := h'.2 k hk hk2; have := h'.1; rw [← h k (by omega) (by omega)]; assumption⟩,
     fun h' => ⟨h'.1, fun k hk hk2 => by have := h'.2 k hk hk2; have := h'.1; rw [h k (by omega) (by omega)]; assumption⟩⟩
  rcases hf with ⟨rfl, h1⟩ | ⟨a, b, c⟩
  · exact .inl ⟨rfl, fun t ht ht2 => h1 t ht ((conv t ht).2 ht2)⟩
  · exact .inr ⟨a, (conv v a).1 b, fun t ht ht2 ht3 => c t ht ht2 ((conv t ht).2 ht3)⟩

/-! The base. -/

def shipItem (p : Port) (s : Ship) : Option Item := if s.state = 3 then some ⟨max 0 p.now, s.since + s.long, s.wide⟩ else none
def keptItem (p : Port) (k : Kept) : Option Item := if 0 < k.wide ∧ max (max k.fr p.now) 0 < k.to then some ⟨max (max k.fr p.now) 0, k.to, k.wide⟩ else none

def newL : Prof := [(0, 16)]
def baseL (p : Port) : Prof × Bool := takes (takes (takeL newL 0 300 p.shut) (p.ships.filterMap (shipItem p))) (p.kept.filterMap (keptItem p))

theorem new_good : Good newL := ⟨16, [], rfl, by omega, by omega, trivial⟩

theorem takes_append (b : Prof × Bool) (xs ys : List Item) : takes b (xs ++ ys) = takes (takes b xs) ys := by simp [takes]

theorem baseL_eq (p : Port) : baseL p = takes (newL, true) (⟨0, 300, p.shut⟩ :: (p.ships.filterMap (shipItem p) ++ p.kept.filterMap (keptItem p))) := by
  rw [show ∀ (x : Item) xs, x :: xs = [x] ++ xs from fun _ _ => rfl, takes_append, takes_append]
  rfl

theorem getD_of_mem {α : Type} {l : List α} {a : α} (d : α) (h : a ∈ l) : ∃ i, i < l.length ∧ l.getD i d = a := by
  obtain ⟨i, hi, e⟩ := List.mem_iff_getElem.1 h
  exact ⟨i, hi, by rw [List.getD_eq_getElem?_getD, List.getElem?_eq_getElem hi]; exact e⟩

theorem base_good {p : Port} (h : Fair p) :
    ((baseL p).2 = true ↔ ∀ u, 0 ≤ u → u < 300 → 0 ≤ freeOf p u) ∧
    ((baseL p).2 = true → Good (baseL p).1 ∧ ∀ u, 0 ≤ u → u < 300 → val (baseL p).1 u = freeOf p u) := by
  have hok : ∀ x ∈ (⟨0, 300, p.shut⟩ : Item) :: (p.ships.filterMap (shipItem p) ++ p.kept.filterMap (keptItem p)), x.ok := by
    intro x hx
    rcases List.mem_cons.1 hx with rfl | hx
    · exact ⟨by simp, by simp, by simp, h.shut⟩
    · have hnow := h.now
      rcases List.mem_append.1 hx with hx | hx
      · obtain ⟨s, hs, e⟩ := List.mem_filterMap.1 hx
        obtain ⟨i, hi, rfl⟩ := getD_of_mem Ship.zero hs
        have ho := (h.ship i hi).1
        simp only [shipItem] at e
        split at e
        · rename_i h3
          have := ho.lies h3
          have := ho.wide
          have := ho.long
          simp only [Option.some.injEq] at e
          subst e
          refine ⟨?_, ?_, ?_, ?_, ?_⟩ <;> simp only [] <;> (unfold Port.ship at *; omega)
        · cases e
      · obtain ⟨k, hk, e⟩ := List.mem_filterMap.1 hx
        obtain ⟨i, hi, rfl⟩ := getD_of_mem Kept.zero hk
        have ho := h.kept i (by rw [← h.four]; exact hi)
        simp only [keptItem] at e
        split at e
        · rename_i h3
          simp only [Option.some.injEq] at e
          subst e
          unfold Port.keep KeptOk at ho
          refine ⟨?_, ?_, ?_, ?_, ?_⟩ <;> simp only [] <;> omega
        · cases e
  have hval : ∀ u, 0 ≤ u → u < 300 → val newL u - (((⟨0, 300, p.shut⟩ : Item) :: (p.ships.filterMap (shipItem p) ++ p.kept.filterMap (keptItem p))).map (·.at u)).sum = freeOf p u := by
    intro u u0 u1
    have hnow := h.now
    rw [List.map_cons, List.sum_cons, List.map_append, List.sum_append, sum_filterMap _ _ Ship.zero, sum_filterMap _ _ Kept.zero]
    have e1 : sumTo (fun i => (shipItem p (p.ships.getD i Ship.zero)).elim 0 (·.at u)) p.ships.length = if p.now ≤ u then sumTo (fun i => lieAt (p.ship i) u) p.ships.length else 0 := by
      by_cases hu : p.now ≤ u
      · rw [if_pos hu]
        refine sumTo_congr _ fun i hi => ?_
        have es : p.ships.getD i Ship.zero = p.ship i := rfl
        rw [es]
        simp only [shipItem, lieAt]
        by_cases h3 : (p.ship i).state = 3
        · rw [if_pos h3]
          simp only [Option.elim, Item.at]
          by_cases h4 : u < (p.ship i).since + (p.ship i).long
          · rw [if_pos ⟨by omega, h4⟩, if_pos ⟨h3, h4⟩]
          · rw [if_neg (by omega), if_neg (by omega)]
        · rw [if_neg h3, if_neg (by omega)]; rfl
      · rw [if_neg hu]
        refine (sumTo_congr (g := fun _ => 0) _ fun i hi => ?_).trans (sumTo_zero _)
        simp only [shipItem]
        split
        · simp only [Option.elim, Item.at]; rw [if_neg (by omega)]
        · rfl
    have e2 : sumTo (fun i => (keptItem p (p.kept.getD i Kept.zero)).elim 0 (·.at u)) p.kept.length = if p.now ≤ u then sumTo (fun i => keptAt (p.keep i) u) 4 else 0 := by
      rw [h.four]
      by_cases hu : p.now ≤ u
      · rw [if_pos hu]
        refine sumTo_congr _ fun i hi => ?_
        have ho := h.kept i hi
        unfold KeptOk at ho
        have es : p.kept.getD i Kept.zero = p.keep i := rfl
        rw [es]
        simp only [keptItem, keptAt]
        by_cases h3 : 0 < (p.keep i).wide ∧ max (max (p.keep i).fr p.now) 0 < (p.keep i).to
        · rw [if_pos h3]
          simp only [Option.elim, Item.at]
          by_cases h4 : (p.keep i).fr ≤ u ∧ u < (p.keep i).to
          · rw [if_pos (by omega), if_pos h4]
          · rw [if_neg (by omega), if_neg h4]
        · rw [if_neg h3]; simp only [Option.elim]
          by_cases h4 : (p.keep i).fr ≤ u ∧ u < (p.keep i).to
          · rw [if_pos h4]; omega
          · rw [if_neg h4]
      · rw [if_neg hu]
        refine (sumTo_congr (g := fun _ => 0) _ fun i hi => ?_).trans (sumTo_zero _)
        simp only [keptItem]
        split
        · simp only [Option.elim, Item.at]; rw [if_neg (by omega)]
        · rfl
    rw [e1, e2]
    have e0 : (⟨0, 300, p.shut⟩ : Item).at u = p.shut := by simp only [Item.at]; rw [if_pos ⟨u0, u1⟩]
    have e3 : val newL u = 16 := rfl
    rw [e0, e3]
    unfold freeOf
    split <;> omega
  obtain ⟨a1, a2⟩ := takes_good _ new_good hok
  rw [baseL_eq]
  refine ⟨?_, fun hb => ⟨(a2 hb).1, fun u u0 u1 => ?_⟩⟩
  · rw [a1]
    constructor
    · intro g u u0 u1; rw [← hval u u0 u1]; exact g u u0 u1
    · intro g u u0 u1; rw [hval u u0 u1]; exact g u u0 u1
  · rw [(a2 hb).2 u u0 u1, hval u u0 u1]

/-! Ranks. -/

def key (s : Ship) : Int := s.cls * 2097152 + s.queued

structure IsRank (p : Port) (r : List Nat) : Prop where
  sorted : r.Pairwise fun a b => key (p.ship a) < key (p.ship b)
  mem : ∀ i, i ∈ r ↔ i < p.ships.length ∧ (p.ship i).state = 1

theorem sorted_unique {k : Nat → Int} : ∀ {r s : List Nat}, r.Pairwise (fun a b => k a < k b) → s.Pairwise (fun a b => k a < k b) → (∀ i, i ∈ r ↔ i ∈ s) → r = s
  | [], [], _, _, _ => rfl
  | [], b :: s, _, _, h => absurd ((h b).2 (by simp)) (by simp)
  | a :: r, [], _, _, h => absurd ((h a).1 (by simp)) (by simp)
  | a :: r, b :: s, hr, hs, h => by
    obtain ⟨r1, r2⟩ := List.pairwise_cons.1 hr
    obtain ⟨s1, s2⟩ := List.pairwise_cons.1 hs
    have hab : a = b := by
      rcases List.mem_cons.1 ((h a).1 (by simp)) with e | ha
      · exact e
      · rcases List.mem_cons.1 ((h b).2 (by simp)) with e | hb
        · exact e.symm
        · have := s1 a ha; have := r1 b hb; omega
    subst hab
    rw [sorted_unique r2 s2 fun i => ⟨fun hi => ?_, fun hi => ?_⟩]
    · rcases List.mem_cons.1 ((h i).1 (by simp [hi])) with e | g
      · subst e; have := r1 i hi; omega
      · exact g
    · rcases List.mem_cons.1 ((h i).2 (by simp [hi])) with e | g
      · subst e; have := s1 i hi; omega
      · exact g

theorem IsRank.unique {p : Port} {r s : List Nat} (hr : IsRank p r) (hs : IsRank p s) : r = s :=
  sorted_unique hr.sorted hs.sorted fun i => (hr.mem i).trans (hs.mem i).symm

theorem IsRank.nodup {p : Port} {r : List Nat} (h : IsRank p r) : r.Nodup := h.sorted.imp fun {a b} hab e => by subst e; omega

/-! Plans. -/

def cover (s : Ship) (t u : Int) : Int := if 0 ≤ t ∧ t ≤ u ∧ u < t + s.long then s.wide else 0

/-- What is free for one of a key: what all ahead of it leave. -/
def prof (p : Port) (plan : List Int) (k : Int) (u : Int) : Int :=
  freeOf p u - sumTo (fun j => if (p.ship j).state = 1 ∧ key (p.ship j) < k then cover (p.ship j) (plan.getD j (-1)) u else 0) p.ships.length

/-- What is left behind all. -/
def rest (p : Port) (plan : List Int) (u : Int) : Int :=
  freeOf p u - sumTo (fun j => if (p.ship j).state = 1 then cover (p.ship j) (plan.getD j (-1)) u else 0) p.ships.length

structure IsPlan (p : Port) (plan : List Int) : Prop where
  len : plan.length = p.ships.length
  other : ∀ i, i < p.ships.length → (p.ship i).state ≠ 1 → plan.getD i (-1) = -1
  first : ∀ i, i < p.ships.length → (p.ship i).state = 1 → First (prof p plan (key (p.ship i))) p.now (p.ship i).long (p.ship i).wide (plan.getD i (-1))

def planGo (p : Port) : Prof → List Int → List Nat → List Int
  | _, out, [] => out
  | b, out, i :: r =>
    if 0 ≤ fitL b (max 0 p.now) (p.ship i).long (p.ship i).wide then
      planGo p (takeL b (fitL b (max 0 p.now) (p.ship i).long (p.ship i).wide) (fitL b (max 0 p.now) (p.ship i).long (p.ship i).wide + (p.ship i).long) (p.ship i).wide).1
        (out.set i (fitL b (max 0 p.now) (p.ship i).long (p.ship i).wide)) r
    else planGo p b out r

def noneL (n : Nat) : List Int := List.replicate n (-1)
def planL (p : Port) (r : List Nat) : List Int := if (baseL p).2 = true then planGo p (baseL p).1 (noneL p.ships.length) r else noneL p.ships.length

theorem First.none_or {f : Int → Int} {fr long n v : Int} (h0 : 0 ≤ fr) (h : First f fr long n v) : v = -1 ∨ (fr ≤ v ∧ 0 ≤ v ∧ Fits f long n v) := by
  rcases h with ⟨h, _⟩ | ⟨a, b, _⟩
  · exact .inl h
  · exact .inr ⟨a, by omega, b⟩

theorem cover_neg {s : Ship} {t u : Int} (h : t < 0) : cover s t u = 0 := by unfold cover; rw [if_neg (by omega)]

theorem cover_nonneg {s : Ship} {t u : Int} (h : 0 ≤ s.wide) : 0 ≤ cover s t u := by unfold cover; split <;> omega

/-- What a plan's making hands on: the profile less each ship's place, one by one. -/
theorem planGo_spec (p : Port) (h : PGood p) : ∀ (r : List Nat) (b : Prof) (out : List Int), Good b → out.length = p.ships.length → r.Nodup → (∀ i ∈ r, i < p.ships.length) → (∀ i ∈ r, out.getD i (-1) = -1) →
    (planGo p b out r).length = p.ships.length ∧ (∀ j, j ∉ r → (planGo p b out r).getD j (-1) = out.getD j (-1)) ∧
    (∀ r1 i r2, r = r1 ++ i :: r2 → First (fun u => val b u - (r1.map fun j => cover (p.ship j) ((planGo p b out r).getD j (-1)) u).sum) p.now (p.ship i).long (p.ship i).wide ((planGo p b out r).getD i (-1))) := by
  intro r
  induction r with
  | nil => intro b out _ hl _ _ _; exact ⟨hl, fun _ _ => rfl, fun r1 i r2 e => by simp at e⟩
  | cons i r ih =>
    intro b out hb hl hnd hlt hnone
    obtain ⟨n1, n2⟩ := List.nodup_cons.1 hnd
    have hi := hlt i (by simp)
    obtain ⟨hso, _⟩ := h.ship i hi
    have hnow := h.now
    have hfit := fitL_first (n := (p.ship i).wide) (fr := max 0 p.now) hb (by omega) hso.long.1 hso.long.2 (by have := hso.wide; omega)
    have em : max 0 p.now = p.now := by omega
    rw [planGo]
    rw [em] at hfit ⊢
    generalize ht : fitL b p.now (p.ship i).long (p.ship i).wide = t at hfit ⊢
    by_cases h0 : 0 ≤ t
    · rw [if_pos h0]
      obtain ⟨f1, f2⟩ : p.now ≤ t ∧ Fits (val b) (p.ship i).long (p.ship i).wide t := by
        rcases First.none_or hnow.1 hfit with e | ⟨g1, _, g2⟩
        · omega
        · exact ⟨g1, g2⟩
      have hx : (⟨t, t + (p.ship i).long, (p.ship i).wide⟩ : Item).ok := ⟨h0, by have := hso.long; simp only []; omega, f2.1, by have := hso.wide; simp only []; omega, hso.wide.2⟩
      obtain ⟨a1, a2, _⟩ := takeL_good hb hx
      dsimp only at a1 a2
      have hat : ∀ u, (⟨t, t + (p.ship i).long, (p.ship i).wide⟩ : Item).at u = cover (p.ship i) t u := fun u => by
        simp only [Item.at, cover]
        by_cases hc : t ≤ u ∧ u < t + (p.ship i).long
        · rw [if_pos hc, if_pos ⟨h0, hc⟩]
        · rw [if_neg hc, if_neg (by omega)]
      have hb2 := a1.2 fun u u0 u1 => by
        rw [hat]
        have := val_range hb u
        unfold cover; split
        · have := f2.2 u (by omega) (by omega); omega
        · omega
      obtain ⟨g1, g2⟩ := a2 hb2
      simp only [hat] at g2
      have hset : ∀ j, (out.set i t).getD j (-1) = if j = i then t else out.getD j (-1) := fun j => by
        simp only [List.getD_eq_getElem?_getD, List.getElem?_set]
        by_cases hj : i = j
        · subst hj; rw [if_pos rfl, if_pos rfl, if_pos (by omega)]; rfl
        · rw [if_neg hj, if_neg (by omega)]
      obtain ⟨i1, i2, i3⟩ := ih _ (out.set i t) g1 (by simpa using hl) n2 (fun j hj => hlt j (by simp [hj])) (fun j hj => by
        rw [hset, if_neg (by rintro rfl; exact n1 hj)]; exact hnone j (by simp [hj]))
      have hP : (planGo p (takeL b t (t + (p.ship i).long) (p.ship i).wide).1 (out.set i t) r).getD i (-1) = t := by rw [i2 i n1, hset, if_pos rfl]
      refine ⟨i1, fun j hj => ?_, fun r1 k r2 e => ?_⟩
      · rw [i2 j (fun hh => hj (by simp [hh])), hset, if_neg (by rintro rfl; exact hj (by simp))]
      · cases r1 with
        | nil =>
          simp only [List.nil_append, List.cons.injEq] at e
          obtain ⟨rfl, rfl⟩ := e
          rw [hP]
          simpa using hfit
        | cons c r1 =>
          simp only [List.cons_append, List.cons.injEq] at e
          obtain ⟨rfl, e⟩ := e
          refine (i3 r1 k r2 e).congr hnow.1 fun u u0 u1 => ?_
          rw [List.map_cons, List.sum_cons, hP, g2 u u0 u1]
          omega
    · rw [if_neg h0]
      have ht1 : t = -1 := by
        rcases First.none_or hnow.1 hfit with e | ⟨_, g1, _⟩
        · exact e
        · omega
      obtain ⟨i1, i2, i3⟩ := ih b out hb hl n2 (fun j hj => hlt j (by simp [hj])) (fun j hj => hnone j (by simp [hj]))
      have hP : (planGo p b out r).getD i (-1) = -1 := by rw [i2 i n1]; exact hnone i (by simp)
      refine ⟨i1, fun j hj => i2 j (fun hh => hj (by simp [hh])), fun r1 k r2 e => ?_⟩
      cases r1 with
      | nil =>
        simp only [List.nil_append, List.cons.injEq] at e
        obtain ⟨rfl, rfl⟩ := e
        rw [hP, ← ht1]
        simpa using hfit
      | cons c r1 =>
        simp only [List.cons_append, List.cons.injEq] at e
        obtain ⟨rfl, e⟩ := e
        refine (i3 r1 k r2 e).congr hnow.1 fun u u0 u1 => ?_
        rw [List.map_cons, List.sum_cons, hP, cover_neg (by omega)]
        omega

/-- Those ahead in a ranking are those of a lesser key. -/
theorem rank_ahead {p : Port} {r r1 r2 : List Nat} {i : Nat} (h : IsRank p r) (e : r = r1 ++ i :: r2) (j : Nat) :
    j ∈ r1 ↔ j < p.ships.length ∧ (p.ship j).state = 1 ∧ key (p.ship j) < key (p.ship i) := by
  have hs := h.sorted
  rw [e] at hs
  obtain ⟨s1, s2, s3⟩ := List.pairwise_append.1 hs
  obtain ⟨s4, _⟩ := List.pairwise_cons.1 s2
  constructor
  · intro hj
    have := (h.mem j).1 (by rw [e]; simp [hj])
    exact ⟨this.1, this.2, s3 j hj i (by simp)⟩
  · rintro ⟨g1, g2, g3⟩
    have hm := (h.mem j).2 ⟨g1, g2⟩
    rw [e] at hm
    rcases List.mem_append.1 hm with hm | hm
    · exact hm
    · rcases List.mem_cons.1 hm with rfl | hm
      · omega
      · have := s4 j hm; omega

theorem prof_rank {p : Port} {r r1 r2 : List Nat} {i : Nat} (h : IsRank p r) (e : r = r1 ++ i :: r2) (plan : List Int) (u : Int) :
    prof p plan (key (p.ship i)) u = freeOf p u - (r1.map fun j => cover (p.ship j) (plan.getD j (-1)) u).sum := by
  have hn := h.nodup
  rw [e] at hn
  have hn1 : r1.Nodup := (List.nodup_append.1 hn).1
  unfold prof
  rw [sum_list _ p.ships.length r1 hn1 fun j hj => ((rank_ahead h e j).1 hj).1]
  congr 1
  refine sumTo_congr _ fun j hj => ?_
  by_cases hm : j ∈ r1
  · rw [if_pos hm, if_pos ((rank_ahead h e j).1 hm).2]
  · rw [if_neg hm, if_neg fun hh => hm ((rank_ahead h e j).2 ⟨hj, hh⟩)]

theorem getD_none (n i : Nat) : (noneL n).getD i (-1) = -1 := by
  simp only [noneL, List.getD_eq_getElem?_getD, List.getElem?_replicate]; split <;> rfl

theorem plan_is {p : Port} {r : List Nat} (h : PGood p) (hr : IsRank p r) : IsPlan p (planL p r) := by
  have hb := (base_good h.toFair).1.2 h.room
  obtain ⟨g1, g2⟩ := (base_good h.toFair).2 hb
  unfold planL
  rw [if_pos hb]
  obtain ⟨a1, a2, a3⟩ := planGo_spec p h r (baseL p).1 (noneL p.ships.length) g1 (by simp [noneL]) hr.nodup (fun i hi => ((hr.mem i).1 hi).1) (fun i _ => getD_none _ _)
  refine ⟨a1, fun i hi hs => ?_, fun i hi hs => ?_⟩
  · rw [a2 i fun hm => hs ((hr.mem i).1 hm).2]; exact getD_none _ _
  · obtain ⟨r1, r2, e⟩ := List.append_of_mem ((hr.mem i).2 ⟨hi, hs⟩)
    refine (a3 r1 i r2 e).congr h.now.1 fun u u0 u1 => ?_
    rw [prof_rank hr e, g2 u u0 u1]

/-- Every port has a ranking. -/
theorem key_inj {p : Port} (h : PGood p) {i j : Nat} (hi : i < p.ships.length) (hj : j < p.ships.length) (e : key (p.ship i) = key (p.ship j)) : i = j := by
  obtain ⟨s1, q1⟩ := h.ship i hi
  obtain ⟨s2, q2⟩ := h.ship j hj
  have := h.next
  have := s1.queued
  have := s2.queued
  have := s1.cls
  have := s2.cls
  unfold key at e
  rcases Nat.lt_trichotomy i j with hlt | he | hgt
  · exact absurd (by omega) (h.apart i j hlt hj)
  · exact he
  · exact absurd (by omega) (h.apart j i hgt hi)

/-- There is one plan. -/
theorem plan_unique {p : Port} {a b : List Int} (h : PGood p) (ha : IsPlan p a) (hb : IsPlan p b) : a = b := by
  have key0 : ∀ i, i < p.ships.length → 0 ≤ key (p.ship i) := fun i hi => by
    obtain ⟨s, _⟩ := h.ship i hi; have := s.cls; have := s.queued; unfold key; omega
  have main : ∀ (n : Nat) (i : Nat), i < p.ships.length → (key (p.ship i)).toNat < n → a.getD i (-1) = b.getD i (-1) := by
    intro n
    induction n with
    | zero => intro i _ h; omega
    | succ n ih =>
      intro i hi hn
      by_cases hs : (p.ship i).state = 1
      · refine First.unique h.now.1 (fun u _ _ => ?_) (ha.first i hi hs) (hb.first i hi hs)
        unfold prof
        congr 1
        refine sumTo_congr _ fun j hj => ?_
        by_cases hc : (p.ship j).state = 1 ∧ key (p.ship j) < key (p.ship i)
        · rw [if_pos hc, if_pos hc, ih j hj (by have := key0 j hj; have := key0 i hi; omega)]
        · rw [if_neg hc, if_neg hc]
      · rw [ha.other i hi hs, hb.other i hi hs]
  refine List.ext_getElem (by rw [ha.len, hb.len]) fun i h1 h2 => ?_
  have := main _ i (by rw [← ha.len]; exact h1) (Nat.lt_succ_self _)
  rw [List.getD_eq_getElem?_getD, List.getD_eq_getElem?_getD, List.getElem?_eq_getElem h1, List.getElem?_eq_getElem h2] at this
  exact this

/-- Whoever comes in by plan finds room. -/
theorem rest_room {p : Port} {plan : List Int} (h : PGood p) (hp : IsPlan p plan) (u : Int) (u0 : 0 ≤ u) (u1 : u < 300) : 0 ≤ rest p plan u := by
  -- by keys: what those of a key below k leave is 0 or more
  have key0 : ∀ i, i < p.ships.length → 0 ≤ key (p.ship i) := fun i hi => by
    obtain ⟨s, _⟩ := h.ship i hi; have := s.cls; have := s.queued; unfold key; omega
  have main : ∀ n : Nat, 0 ≤ prof p plan (n : Int) u := by
    intro n
    induction n with
    | zero =>
      have : prof p plan 0 u = freeOf p u := by
        unfold prof
        rw [(sumTo_congr (g := fun _ => 0) _ fun j hj => ?_), sumTo_zero]
        · omega
        · rw [if_neg]; have := key0 j hj; omega
      rw [show ((0 : Nat) : Int) = 0 from rfl, this]; exact h.room u u0 u1
    | succ n ih =>
      by_cases hex : ∃ i, i < p.ships.length ∧ (p.ship i).state = 1 ∧ key (p.ship i) = n
      · obtain ⟨i, hi, hs, hk⟩ := hex
        have e : prof p plan ((n + 1 : Nat) : Int) u = prof p plan (n : Int) u - cover (p.ship i) (plan.getD i (-1)) u := by
          unfold prof
          rw [(sumTo_congr (g := fun j => (if (p.ship j).state = 1 ∧ key (p.ship j) < (n : Int) then cover (p.ship j) (plan.getD j (-1)) u else 0) + if j = i then cover (p.ship i) (plan.getD i (-1)) u else 0) _ fun j hj => ?_), sumTo_add, sumTo_one, if_pos hi]
          · omega
          · by_cases hji : j = i
            · subst hji; rw [if_pos rfl, if_pos ⟨hs, by omega⟩, if_neg (by omega)]; omega
            · rw [if_neg hji]
              have hne : key (p.ship j) ≠ n := fun e => hji (key_inj h hj hi (by omega))
              by_cases hc : (p.ship j).state = 1 ∧ key (p.ship j) < (n : Int)
              · rw [if_pos hc, if_pos (by omega)]; omega
              · rw [if_neg hc, if_neg (by omega)]; omega
        rw [e]
        unfold cover
        split
        · rename_i hc
          have hf := hp.first i hi hs
          rw [hk] at hf
          rcases First.none_or h.now.1 hf with g | ⟨_, _, g⟩
          · omega
          · have := g.2 u hc.2.1 hc.2.2; omega
        · omega
      · have e : prof p plan ((n + 1 : Nat) : Int) u = prof p plan (n : Int) u := by
          unfold prof
          congr 1
          refine sumTo_congr _ fun j hj => ?_
          by_cases hc : (p.ship j).state = 1 ∧ key (p.ship j) < (n : Int)
          · rw [if_pos hc, if_pos (by omega)]
          · rw [if_neg hc, if_neg]
            intro hc2
            exact hex ⟨j, hj, hc2.1, by omega⟩
        rw [e]; exact ih
  have := main 8388608
  have e : prof p plan ((8388608 : Nat) : Int) u = rest p plan u := by
    unfold prof rest
    congr 1
    refine sumTo_congr _ fun j hj => ?_
    obtain ⟨s, q⟩ := h.ship j hj
    have := s.cls
    have := h.next
    by_cases hc : (p.ship j).state = 1
    · rw [if_pos hc, if_pos ⟨hc, by unfold key; omega⟩]
    · rw [if_neg hc, if_neg (by omega)]
  rwa [e] at this
end Go.Proofs.Ytifmdkcpbajdcaa.Plain
