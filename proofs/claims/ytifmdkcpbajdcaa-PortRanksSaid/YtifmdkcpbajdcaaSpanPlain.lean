/- Profiles of free berths as plain lists: what they mean, when they are good, that a good one is known by what it means. -/
import Derived.PlainAid
namespace Go.Proofs.Ytifmdkcpbajdcaa.Plain

/-- A step: from when on, how many. -/
abbrev Stp := Int × Int
abbrev Prof := List Stp

def okAt (l : Prof) (i : Nat) : Bool :=
  decide (0 ≤ (l.getD i (0, 0)).2) && decide ((l.getD i (0, 0)).2 ≤ 16) && decide ((l.getD i (0, 0)).1 < 300) &&
  (if i = 0 then decide ((l.getD 0 (0, 0)).1 = 0)
   else decide ((l.getD (i - 1) (0, 0)).1 < (l.getD i (0, 0)).1) && decide ((l.getD (i - 1) (0, 0)).2 ≠ (l.getD i (0, 0)).2))

def goodB (l : Prof) : Bool := decide (0 < l.length) && (List.range l.length).all (okAt l)

/-- Steps behind one at a with x free: rising, each another number than the one ahead. -/
def Chain : Int → Int → Prof → Prop
  | _, _, [] => True
  | a, x, (b, y) :: r => a < b ∧ b < 300 ∧ y ≠ x ∧ 0 ≤ y ∧ y ≤ 16 ∧ Chain b y r

/-- The same, but neighbours may be alike, and the numbers are anything. -/
def WChain : Int → Prof → Prop
  | _, [] => True
  | a, (b, _) :: r => a < b ∧ b < 300 ∧ WChain b r

def vl : Int → Prof → Int → Int
  | x, [], _ => x
  | x, (b, y) :: r, t => if b ≤ t then vl y r t else x

def Good (l : Prof) : Prop := ∃ x r, l = (0, x) :: r ∧ 0 ≤ x ∧ x ≤ 16 ∧ Chain 0 x r

/-- What is free at a time (of 0 to 299) by a profile. -/
def val : Prof → Int → Int
  | [], _ => 0
  | (_, x) :: r, t => vl x r t

theorem Chain.weak {a x : Int} {r : Prof} (h : Chain a x r) : WChain a r := by
  induction r generalizing a x with
  | nil => trivial
  | cons s r ih => obtain ⟨b, y⟩ := s; obtain ⟨h1, h2, _, _, _, h6⟩ := h; exact ⟨h1, h2, ih h6⟩

theorem vl_ahead {a x t : Int} {r : Prof} (h : WChain a r) (ht : t ≤ a) : vl x r t = x := by
  cases r with
  | nil => rfl
  | cons s r => obtain ⟨b, y⟩ := s; obtain ⟨h1, _, _⟩ := h; simp only [vl]; rw [if_neg (by omega)]

theorem chain_ext {a x : Int} {r s : Prof} (hr : Chain a x r) (hs : Chain a x s) (h : ∀ t, a ≤ t → t < 300 → vl x r t = vl x s t) : r = s := by
  induction r generalizing a x s with
  | nil =>
    cases s with
    | nil => rfl
    | cons p s =>
      obtain ⟨b, y⟩ := p; obtain ⟨h1, h2, h3, _, _, h6⟩ := hs
      have := h b (by omega) h2
      simp only [vl] at this; rw [if_pos (by omega), vl_ahead h6.weak (by omega)] at this
      exact absurd this.symm h3
  | cons p r ih =>
    obtain ⟨b, y⟩ := p; obtain ⟨h1, h2, h3, h4, h5, h6⟩ := hr
    cases s with
    | nil =>
      have := h b (by omega) h2
      simp only [vl] at this; rw [if_pos (by omega), vl_ahead h6.weak (by omega)] at this
      exact absurd this h3
    | cons q s =>
      obtain ⟨c, z⟩ := q; obtain ⟨g1, g2, g3, g4, g5, g6⟩ := hs
      have hbc : b = c := by
        rcases Int.lt_trichotomy b c with hlt | he | hgt
        · have := h b (by omega) h2
          simp only [vl] at this; rw [if_pos (by omega), if_neg (by omega), vl_ahead h6.weak (by omega)] at this
          exact absurd this h3
        · exact he
        · have := h c (by omega) g2
          simp only [vl] at this; rw [if_neg (by omega), if_pos (by omega), vl_ahead g6.weak (by omega)] at this
          exact absurd this.symm g3
      subst hbc
      have hyz : y = z := by
        have := h b (by omega) h2
        simp only [vl] at this; rw [if_pos (by omega), if_pos (by omega), vl_ahead h6.weak (by omega), vl_ahead g6.weak (by omega)] at this
        exact this
      subst hyz
      rw [ih h6 g6 fun t ht ht2 => by
        have := h t (by omega) ht2
        simp only [vl] at this; rw [if_pos (by omega), if_pos (by omega)] at this
        exact this]

theorem good_ext {l m : Prof} (hl : Good l) (hm : Good m) (h : ∀ t, 0 ≤ t → t < 300 → val l t = val m t) : l = m := by
  obtain ⟨x, r, rfl, _, _, hr⟩ := hl
  obtain ⟨y, s, rfl, _, _, hs⟩ := hm
  have h0 := h 0 (by omega) (by omega)
  simp only [val] at h0 h
  rw [vl_ahead hr.weak (by omega), vl_ahead hs.weak (by omega)] at h0
  subst h0
  rw [chain_ext hr hs h]

theorem vl_range {a x t : Int} {r : Prof} (h : Chain a x r) (h0 : 0 ≤ x) (h1 : x ≤ 16) : 0 ≤ vl x r t ∧ vl x r t ≤ 16 := by
  induction r generalizing a x with
  | nil => exact ⟨h0, h1⟩
  | cons p r ih =>
    obtain ⟨b, y⟩ := p; obtain ⟨_, _, _, h4, h5, h6⟩ := h
    simp only [vl]; split
    · exact ih h6 h4 h5
    · exact ⟨h0, h1⟩

theorem val_range {l : Prof} (h : Good l) (t : Int) : 0 ≤ val l t ∧ val l t ≤ 16 := by
  obtain ⟨x, r, rfl, h0, h1, hr⟩ := h
  exact vl_range hr h0 h1

/-- Good, index by index, is good. -/
theorem chain_of_ok : ∀ (r : Prof) (a x : Int), (∀ i, i < r.length → okAt ((a, x) :: r) (i + 1) = true) → Chain a x r
  | [], _, _, _ => trivial
  | (b, y) :: r, a, x, h => by
    have h0 := h 0 (by simp)
    simp [okAt] at h0
    refine ⟨by omega, by omega, fun e => h0.2.2 e.symm, by omega, by omega, chain_of_ok r b y fun i hi => ?_⟩
    have := h (i + 1) (by simpa using hi)
    simpa [okAt] using this

theorem ok_of_chain : ∀ (r : Prof) (a x : Int), Chain a x r → ∀ i, i < r.length → okAt ((a, x) :: r) (i + 1) = true
  | [], _, _, _, i, hi => absurd hi (by simp)
  | (b, y) :: r, a, x, h, i, hi => by
    obtain ⟨h1, h2, h3, h4, h5, h6⟩ := h
    cases i with
    | zero => simp [okAt]; exact ⟨⟨⟨h4, h5⟩, h2⟩, h1, fun e => h3 e.symm⟩
    | succ i =>
      have := ok_of_chain r b y h6 i (by simpa using hi)
      simpa [okAt] using this

theorem goodB_iff (l : Prof) : goodB l = true ↔ Good l := by
  cases l with
  | nil => simp [goodB, Good]
  | cons p r =>
    obtain ⟨a, x⟩ := p
    simp only [goodB, Bool.and_eq_true, decide_eq_true_eq, List.all_eq_true, List.mem_range, List.length_cons]
    constructor
    · rintro ⟨_, h⟩
      have h0 := h 0 (by omega)
      simp [okAt] at h0
      obtain ⟨⟨⟨h1, h2⟩, _⟩, h3⟩ := h0
      subst h3
      exact ⟨x, r, rfl, h1, h2, chain_of_ok r 0 x fun i hi => h (i + 1) (by omega)⟩
    · rintro ⟨y, s, e, h1, h2, h3⟩
      simp only [List.cons.injEq, Prod.mk.injEq] at e
      obtain ⟨⟨rfl, rfl⟩, rfl⟩ := e
      refine ⟨by omega, fun i hi => ?_⟩
      cases i with
      | zero => simp [okAt]; omega
      | succ i => exact ok_of_chain r 0 x h3 i (by omega)


/-! Taking and giving. -/

def cnt (l : Prof) (t : Int) : Nat := (l.takeWhile fun s => decide (s.1 < t)).length

def hasAt (l : Prof) (t : Int) : Bool := l.any fun s => decide (s.1 = t)

def splitL (l : Prof) (t : Int) : Prof :=
  if hasAt l t = true ∨ 300 ≤ t then l else l.take (cnt l t) ++ (t, (l.getD (cnt l t - 1) (0, 0)).2) :: l.drop (cnt l t)

/-- A step laid in behind one with x free. -/
def spl : Int → Prof → Int → Prof
  | x, [], t => [(t, x)]
  | x, (b, y) :: r, t => if b < t then (b, y) :: spl y r t else if b = t then (b, y) :: r else (t, x) :: (b, y) :: r

theorem splitL_cons (a x t : Int) (r : Prof) (hat : a < t) (ht : t < 300) (hr : WChain a r) :
    splitL ((a, x) :: r) t = (a, x) :: spl x r t := by
  induction r generalizing a x with
  | nil => simp [splitL, hasAt, cnt, spl, List.takeWhile, hat, show ¬ a = t by omega, show ¬ 300 ≤ t by omega]
  | cons s r ih =>
    obtain ⟨b, y⟩ := s
    obtain ⟨h1, h2, h3⟩ := hr
    by_cases hb : b < t
    · have := ih b y hb h3
      simp only [spl, if_pos hb]
      rw [← this]
      simp only [splitL]
      have e1 : hasAt ((a, x) :: (b, y) :: r) t = hasAt ((b, y) :: r) t := by simp [hasAt, show ¬ a = t by omega]
      have e2 : cnt ((a, x) :: (b, y) :: r) t = cnt ((b, y) :: r) t + 1 := by simp [cnt, List.takeWhile, hat]
      have e3 : 0 < cnt ((b, y) :: r) t := by simp [cnt, List.takeWhile, hb]
      rw [e1, e2]
      split
      · rfl
      · obtain ⟨m, hm⟩ : ∃ m, cnt ((b, y) :: r) t = m + 1 := ⟨_, (Nat.succ_pred_eq_of_pos e3).symm⟩
        rw [hm]; simp
    · by_cases hbt : b = t
      · simp [spl, hbt, splitL, hasAt]
      · have hn : hasAt ((a, x) :: (b, y) :: r) t = false := by
          have key : ∀ (c : Int) (q : Prof), WChain c q → t ≤ c → hasAt q t = false := by
            intro c q
            induction q generalizing c with
            | nil => intro _ _; rfl
            | cons s q ih2 =>
              obtain ⟨d, z⟩ := s
              rintro ⟨g1, g2, g3⟩ hc
              have := ih2 d g3 (by omega)
              simp only [hasAt, List.any_cons, Bool.or_eq_false_iff] at this ⊢
              exact ⟨by simp; omega, this⟩
          have := key b r h3 (by omega)
          simp only [hasAt, List.any_cons, Bool.or_eq_false_iff] at this ⊢
          exact ⟨by simp; omega, by simp; omega, this⟩
        simp [spl, hb, hbt, splitL, hn, show ¬ 300 ≤ t by omega, cnt, List.takeWhile, hat]

theorem WChain.mono {a b : Int} {r : Prof} (h : WChain b r) (hab : a ≤ b) : WChain a r := by
  cases r with
  | nil => trivial
  | cons s r => exact ⟨by have := h.1; omega, h.2⟩

theorem spl_weak {a x t : Int} {r : Prof} (hat : a < t) (ht : t < 300) (hr : WChain a r) : WChain a (spl x r t) := by
  induction r generalizing a x with
  | nil => exact ⟨hat, ht, trivial⟩
  | cons s r ih =>
    obtain ⟨b, y⟩ := s
    obtain ⟨h1, h2, h3⟩ := hr
    simp only [spl]
    split
    · exact ⟨h1, h2, ih (by assumption) h3⟩
    · split
      · exact ⟨h1, h2, h3⟩
      · exact ⟨hat, ht, by omega, h2, h3⟩

theorem spl_vl {a x t : Int} {r : Prof} (hr : WChain a r) (u : Int) : vl x (spl x r t) u = vl x r u := by
  induction r generalizing a x with
  | nil => simp [spl, vl]
  | cons s r ih =>
    obtain ⟨b, y⟩ := s
    obtain ⟨h1, h2, h3⟩ := hr
    simp only [spl]
    split
    · simp only [vl]; rw [ih h3]
    · split
      · rfl
      · simp only [vl]
        by_cases hu : t ≤ u
        · rw [if_pos hu]
        · rw [if_neg hu, if_neg (by omega)]

theorem spl_has (x t : Int) (r : Prof) : ∃ z, (t, z) ∈ spl x r t := by
  induction r generalizing x with
  | nil => exact ⟨x, by simp [spl]⟩
  | cons s r ih =>
    obtain ⟨b, y⟩ := s
    simp only [spl]
    split
    · obtain ⟨z, hz⟩ := ih y; exact ⟨z, by simp [hz]⟩
    · split
      · exact ⟨y, by simp_all⟩
      · exact ⟨x, by simp⟩

theorem spl_keeps {x t : Int} {r : Prof} {s : Stp} (h : s ∈ r) : s ∈ spl x r t := by
  induction r generalizing x with
  | nil => simp at h
  | cons p r ih =>
    obtain ⟨b, y⟩ := p
    simp only [spl]
    split
    · rcases List.mem_cons.1 h with h | h
      · simp [h]
      · simp [ih h]
    · split
      · exact h
      · exact List.mem_cons_of_mem _ h

/-- A profile that may have neighbours alike. -/
def WGood (l : Prof) : Prop := ∃ x r, l = (0, x) :: r ∧ WChain 0 r

theorem Good.weak {l : Prof} (h : Good l) : WGood l := by obtain ⟨x, r, e, _, _, hr⟩ := h; exact ⟨x, r, e, hr.weak⟩

/-- At t a step begins, or t is at the end or behind it. -/
def Breaks (l : Prof) (t : Int) : Prop := (∃ z, (t, z) ∈ l) ∨ 300 ≤ t

theorem splitL_good {l : Prof} {t : Int} (h : WGood l) (ht : 0 ≤ t) :
    WGood (splitL l t) ∧ (∀ u, val (splitL l t) u = val l u) ∧ Breaks (splitL l t) t ∧ ∀ u, Breaks l u → Breaks (splitL l t) u := by
  obtain ⟨x, r, rfl, hr⟩ := h
  by_cases h3 : 300 ≤ t
  · have e : splitL ((0, x) :: r) t = (0, x) :: r := by simp [splitL, h3]
    rw [e]; exact ⟨⟨x, r, rfl, hr⟩, fun _ => rfl, .inr h3, fun _ hu => hu⟩
  · by_cases h0 : t = 0
    · subst h0
      have e : splitL ((0, x) :: r) 0 = (0, x) :: r := by simp [splitL, hasAt]
      rw [e]; exact ⟨⟨x, r, rfl, hr⟩, fun _ => rfl, .inl ⟨x, by simp⟩, fun _ hu => hu⟩
    · rw [splitL_cons 0 x t r (by omega) (by omega) hr]
      refine ⟨⟨x, _, rfl, spl_weak (by omega) (by omega) hr⟩, fun u => by simp only [val]; exact spl_vl hr u, .inl ?_, fun u hu => ?_⟩
      · obtain ⟨z, hz⟩ := spl_has x t r; exact ⟨z, List.mem_cons_of_mem _ hz⟩
      · rcases hu with ⟨z, hz⟩ | hu
        · refine .inl ⟨z, ?_⟩
          rcases List.mem_cons.1 hz with e | hz
          · rw [e]; simp
          · exact List.mem_cons_of_mem _ (spl_keeps hz)
        · exact .inr hu

def bump (fr to n : Int) (s : Stp) : Stp := if fr ≤ s.1 ∧ s.1 < to then (s.1, s.2 + n) else s

theorem bump_fst (fr to n : Int) (s : Stp) : (bump fr to n s).1 = s.1 := by unfold bump; split <;> rfl

theorem weak_bump {fr to n a : Int} {r : Prof} (h : WChain a r) : WChain a (r.map (bump fr to n)) := by
  induction r generalizing a with
  | nil => trivial
  | cons s r ih =>
    obtain ⟨b, y⟩ := s
    obtain ⟨h1, h2, h3⟩ := h
    have e : bump fr to n (b, y) = (b, (bump fr to n (b, y)).2) := by
      have := bump_fst fr to n (b, y); exact Prod.ext this rfl
    rw [List.map_cons, e]; exact ⟨h1, h2, ih h3⟩

theorem weak_ge {a b y : Int} {r : Prof} (h : WChain a r) (hm : (b, y) ∈ r) : a < b ∧ b < 300 := by
  induction r generalizing a with
  | nil => simp at hm
  | cons s r ih =>
    obtain ⟨c, z⟩ := s
    obtain ⟨h1, h2, h3⟩ := h
    rcases List.mem_cons.1 hm with e | hm
    · simp only [Prod.mk.injEq] at e; omega
    · have := ih h3 hm; omega

/-- u breaks what stands behind a, or lies no later than a. -/
def Brk (a : Int) (r : Prof) (u : Int) : Prop := u ≤ a ∨ (∃ z, (u, z) ∈ r) ∨ 300 ≤ u

theorem Brk.tail {a b y u : Int} {r : Prof} (hab : a < b) (h : Brk a ((b, y) :: r) u) : Brk b r u := by
  rcases h with h | ⟨z, h⟩ | h
  · exact .inl (by omega)
  · rcases List.mem_cons.1 h with e | h
    · simp only [Prod.mk.injEq] at e; exact .inl (by omega)
    · exact .inr (.inl ⟨z, h⟩)
  · exact .inr (.inr h)

theorem Brk.ahead {a b y u : Int} {r : Prof} (hr : WChain a ((b, y) :: r)) (h : Brk a ((b, y) :: r) u) : u ≤ a ∨ b ≤ u ∨ 300 ≤ u := by
  rcases h with h | ⟨z, h⟩ | h
  · exact .inl h
  · rcases List.mem_cons.1 h with e | h
    · simp only [Prod.mk.injEq] at e; exact .inr (.inl (by omega))
    · have := weak_ge hr.2.2 h; exact .inr (.inl (by omega))
  · exact .inr (.inr h)

theorem vl_bump {fr to n : Int} (r : Prof) : ∀ {a x t : Int}, WChain a r → Brk a r fr → Brk a r to → a ≤ t → t < 300 →
    vl (bump fr to n (a, x)).2 (r.map (bump fr to n)) t = vl x r t + if fr ≤ t ∧ t < to then n else 0 := by
  induction r with
  | nil =>
    intro a x t _ hf ht h1 h2
    simp only [List.map_nil, vl, bump]
    have hf : fr ≤ a ∨ 300 ≤ fr := by rcases hf with h | ⟨z, h⟩ | h <;> simp_all
    have ht : to ≤ a ∨ 300 ≤ to := by rcases ht with h | ⟨z, h⟩ | h <;> simp_all
    by_cases hc : fr ≤ a ∧ a < to
    · rw [if_pos hc, if_pos (by omega)]
    · rw [if_neg hc, if_neg (by omega)]; simp
  | cons s r ih =>
    intro a x t hr hf ht h1 h2
    obtain ⟨b, y⟩ := s
    have ebump : bump fr to n (b, y) = (b, (bump fr to n (b, y)).2) := Prod.ext (bump_fst fr to n (b, y)) rfl
    rw [List.map_cons, ebump]
    simp only [vl]
    by_cases hb : b ≤ t
    · rw [if_pos hb, if_pos hb]
      exact ih hr.2.2 (hf.tail hr.1) (ht.tail hr.1) hb h2
    · rw [if_neg hb, if_neg hb]
      have g1 := hf.ahead hr
      have g2 := ht.ahead hr
      have := hr.2.1
      simp only [bump]
      by_cases hc : fr ≤ a ∧ a < to
      · rw [if_pos hc, if_pos (by omega)]
      · rw [if_neg hc, if_neg (by omega)]; simp

theorem mem_vl {a x b y : Int} {r : Prof} (h : WChain a r) (hm : (b, y) ∈ r) : vl x r b = y := by
  induction r generalizing a x with
  | nil => simp at hm
  | cons s r ih =>
    obtain ⟨c, z⟩ := s
    obtain ⟨h1, h2, h3⟩ := h
    simp only [vl]
    rcases List.mem_cons.1 hm with e | hm
    · simp only [Prod.mk.injEq] at e
      obtain ⟨rfl, rfl⟩ := e
      rw [if_pos (by omega), vl_ahead h3 (by omega)]
    · have := weak_ge h3 hm
      rw [if_pos (by omega)]; exact ih h3 hm

theorem vl_mem {fr : Int} (r : Prof) : ∀ {a x t : Int}, WChain a r → Brk a r fr → a ≤ t → fr ≤ t → t < 300 →
    ∃ s : Stp, s ∈ (a, x) :: r ∧ fr ≤ s.1 ∧ s.1 ≤ t ∧ s.2 = vl x r t := by
  induction r with
  | nil =>
    intro a x t _ hf h1 h2 h3
    have hf : fr ≤ a ∨ 300 ≤ fr := by rcases hf with h | ⟨z, h⟩ | h <;> simp_all
    exact ⟨(a, x), by simp, by simp; omega, by simp; omega, rfl⟩
  | cons s r ih =>
    intro a x t hr hf h1 h2 h3
    obtain ⟨b, y⟩ := s
    simp only [vl]
    by_cases hb : b ≤ t
    · rw [if_pos hb]
      obtain ⟨s, hs, g⟩ := ih (x := y) hr.2.2 (hf.tail hr.1) hb h2 h3
      exact ⟨s, List.mem_cons_of_mem _ hs, g⟩
    · rw [if_neg hb]
      have := hf.ahead hr
      exact ⟨(a, x), by simp, by simp; omega, by simp; omega, rfl⟩

/-- Neighbours that are alike become one. -/
def cmpt : Int → Prof → Prof
  | _, [] => []
  | x, (b, y) :: r => if y = x then cmpt x r else (b, y) :: cmpt y r

theorem cmpt_chain {a x : Int} {r : Prof} (h : WChain a r) (hr : ∀ s ∈ r, 0 ≤ s.2 ∧ s.2 ≤ 16) : Chain a x (cmpt x r) := by
  induction r generalizing a x with
  | nil => trivial
  | cons s r ih =>
    obtain ⟨b, y⟩ := s
    obtain ⟨h1, h2, h3⟩ := h
    have hy := hr (b, y) (by simp)
    simp only [cmpt]
    split
    · exact ih (h3.mono (by omega)) fun s hs => hr s (by simp [hs])
    · exact ⟨h1, h2, by assumption, hy.1, hy.2, ih h3 fun s hs => hr s (by simp [hs])⟩

theorem cmpt_vl {a x t : Int} {r : Prof} (h : WChain a r) : vl x (cmpt x r) t = vl x r t := by
  induction r generalizing a x with
  | nil => rfl
  | cons s r ih =>
    obtain ⟨b, y⟩ := s
    obtain ⟨h1, h2, h3⟩ := h
    simp only [cmpt]
    split
    · rename_i e; subst e
      simp only [vl]
      by_cases hb : b ≤ t
      · rw [if_pos hb]; exact ih h3
      · rw [if_neg hb, ih h3, vl_ahead h3 (by omega)]
    · simp only [vl]; rw [ih h3]

def tidyL : Prof → Prof
  | [] => []
  | (a, x) :: r => (a, x) :: cmpt x r

/-- So many more from one time on, up to ahead of another one: over steps that break there. -/
def fits (fr to n : Int) (l : Prof) : Bool := l.all fun s => !(decide (fr ≤ s.1) && decide (s.1 < to)) || (decide (0 ≤ s.2 + n) && decide (s.2 + n ≤ 16))

def addL (l : Prof) (fr to n : Int) : Prof × Bool :=
  if goodB l = true ∧ 0 ≤ fr ∧ fr ≤ to ∧ to ≤ 300 then
    if fits fr to n (splitL (splitL l fr) to) = true then (tidyL ((splitL (splitL l fr) to).map (bump fr to n)), true) else (l, false)
  else (l, false)

theorem addL_good {l : Prof} {fr to n : Int} (hg : Good l) (h0 : 0 ≤ fr) (h1 : fr ≤ to) (h2 : to ≤ 300) :
    ((addL l fr to n).2 = true ↔ ∀ t, fr ≤ t → t < to → 0 ≤ val l t + n ∧ val l t + n ≤ 16) ∧
    ((addL l fr to n).2 = true → Good (addL l fr to n).1 ∧ ∀ t, 0 ≤ t → t < 300 → val (addL l fr to n).1 t = val l t + if fr ≤ t ∧ t < to then n else 0) ∧
    ((addL l fr to n).2 = false → (addL l fr to n).1 = l) := by
  have hb := (goodB_iff l).2 hg
  obtain ⟨w1, v1, b1, _⟩ := splitL_good hg.weak h0
  obtain ⟨w2, v2, b2, k2⟩ := splitL_good w1 (show 0 ≤ to by omega)
  have b1 := k2 _ b1
  have hv : ∀ u, val (splitL (splitL l fr) to) u = val l u := fun u => (v2 u).trans (v1 u)
  unfold addL
  rw [if_pos ⟨hb, h0, h1, h2⟩]
  generalize splitL (splitL l fr) to = own at *
  obtain ⟨x, r, rfl, hr⟩ := w2
  have hbrk : ∀ u, Breaks ((0, x) :: r) u → Brk 0 r u := by
    rintro u (⟨z, h⟩ | h)
    · rcases List.mem_cons.1 h with e | h
      · simp only [Prod.mk.injEq] at e; exact .inl (by omega)
      · exact .inr (.inl ⟨z, h⟩)
    · exact .inr (.inr h)
  have hf := hbrk _ b1
  have ht := hbrk _ b2
  have hfits : fits fr to n ((0, x) :: r) = true ↔ ∀ t, fr ≤ t → t < to → 0 ≤ val l t + n ∧ val l t + n ≤ 16 := by
    simp only [fits, List.all_eq_true, Bool.or_eq_true, Bool.not_eq_true', Bool.and_eq_false_iff, Bool.and_eq_true, decide_eq_true_eq, decide_eq_false_iff_not]
    constructor
    · intro h t ht1 ht2
      obtain ⟨s, hs, g1, g2, g3⟩ := vl_mem (x := x) r hr hf (by omega) ht1 (by omega : t < 300)
      rw [← hv t]; simp only [val]; rw [← g3]
      rcases h s hs with h | h
      · omega
      · exact h
    · rintro h ⟨b, y⟩ hs
      by_cases hc : fr ≤ b ∧ b < to
      · right
        have := h b hc.1 hc.2
        rw [← hv b] at this; simp only [val] at this
        rcases List.mem_cons.1 hs with e | hs
        · simp only [Prod.mk.injEq] at e
          obtain ⟨rfl, rfl⟩ := e
          rw [vl_ahead hr (by omega)] at this; exact this
        · rw [mem_vl hr hs] at this; exact this
      · left; simp only []; omega
  by_cases hfit : fits fr to n ((0, x) :: r) = true
  · rw [if_pos hfit]
    refine ⟨by simpa using hfits.1 hfit, fun _ => ?_, by simp⟩
    have hall : ∀ s ∈ r.map (bump fr to n), 0 ≤ s.2 ∧ s.2 ≤ 16 := by
      intro s hs
      obtain ⟨⟨b, y⟩, hm, rfl⟩ := List.mem_map.1 hs
      have hvb := hv b
      simp only [val] at hvb
      rw [mem_vl hr hm] at hvb
      have hrg := val_range hg b
      simp only [val, bump] at hvb hrg ⊢
      split
      · have := hfits.1 hfit b (by simp_all) (by simp_all)
        simp only [val] at this
        simp only []
        rw [hvb]; exact this
      · rw [hvb]; exact hrg
    have hx : 0 ≤ (bump fr to n (0, x)).2 ∧ (bump fr to n (0, x)).2 ≤ 16 := by
      have hvb := hv 0
      simp only [val] at hvb
      rw [vl_ahead hr (by omega)] at hvb
      have hrg := val_range hg 0
      simp only [bump]
      split
      · have := hfits.1 hfit 0 (by simp_all) (by simp_all)
        simp only [val] at this hrg ⊢
        rw [hvb]; exact this
      · simp only [val] at hrg ⊢; rw [hvb]; exact hrg
    have e0 : bump fr to n (0, x) = (0, (bump fr to n (0, x)).2) := Prod.ext (bump_fst fr to n (0, x)) rfl
    have hw := weak_bump (fr := fr) (to := to) (n := n) hr
    rw [List.map_cons, e0]
    refine ⟨⟨_, _, rfl, hx.1, hx.2, cmpt_chain hw hall⟩, fun t g1 g2 => ?_⟩
    simp only [tidyL, val]
    rw [cmpt_vl hw, vl_bump r hr hf ht g1 g2]
    have := hv t; simp only [val] at this; rw [this]
  · rw [if_neg hfit]
    refine ⟨?_, by simp, by simp⟩
    simp only [Bool.false_eq_true, false_iff]
    exact fun h => hfit (hfits.2 h)

theorem addL_bad {l : Prof} {fr to n : Int} (h : ¬ (Good l ∧ 0 ≤ fr ∧ fr ≤ to ∧ to ≤ 300)) : addL l fr to n = (l, false) := by
  unfold addL
  rw [if_neg]
  rintro ⟨h1, h2⟩
  exact h ⟨(goodB_iff l).1 h1, h2⟩

/-! The first time at which so many are free for so long. -/

def nextAt (r : Prof) : Int := match r with | [] => 300 | s :: _ => s.1

def fitGo (long n : Int) : Int → Prof → Int
  | _, [] => -1
  | u, (_, x) :: r =>
    if nextAt r ≤ u then (if 300 - long + 1 ≤ u then -1 else fitGo long n u r)
    else if x < n then (if 300 - long + 1 ≤ nextAt r then -1 else fitGo long n (nextAt r) r)
    else if u + long ≤ nextAt r then u
    else if 300 - long + 1 ≤ u then -1 else fitGo long n u r

def fitL (l : Prof) (fr long n : Int) : Int :=
  if goodB l = true ∧ 0 ≤ fr ∧ 1 ≤ long ∧ long ≤ 300 ∧ 0 ≤ n then fitGo long n fr l else -1

/-- From t on so many are free for so long, all of it ahead of the end. -/
def Fits (f : Int → Int) (long n t : Int) : Prop := t + long ≤ 300 ∧ ∀ k, t ≤ k → k < t + long → n ≤ f k

/-- v is the first such time from fr on; -1: there is none. -/
def First (f : Int → Int) (fr long n v : Int) : Prop :=
  (v = -1 ∧ ∀ t, fr ≤ t → ¬ Fits f long n t) ∨ (fr ≤ v ∧ Fits f long n v ∧ ∀ t, fr ≤ t → t < v → ¬ Fits f long n t)

theorem First.unique {f g : Int → Int} {fr long n v u : Int} (h0 : 0 ≤ fr) (hfg : ∀ t, 0 ≤ t → t < 300 → f t = g t) (h1 : First f fr long n v) (h2 : First g fr long n u) : v = u := by
  have conv : ∀ t, fr ≤ t → (Fits f long n t ↔ Fits g long n t) := fun t ht =>
    ⟨fun h => ⟨h.1, fun k hk hk2 => by have := h.2 k hk hk2; have := h.1; rw [← hfg k (by omega) (by omega)]; assumption⟩,
     fun h => ⟨h.1, fun k hk hk2 => by have := h.2 k hk hk2; have := h.1; rw [hfg k (by omega) (by omega)]; assumption⟩⟩
  rcases h1 with ⟨rfl, h1⟩ | ⟨a1, b1, c1⟩ <;> rcases h2 with ⟨rfl, h2⟩ | ⟨a2, b2, c2⟩
  · rfl
  · exact absurd ((conv u a2).2 b2) (h1 u a2)
  · exact absurd ((conv v a1).1 b1) (h2 v a1)
  · rcases Int.lt_trichotomy v u with h | h | h
    · exact absurd ((conv v a1).1 b1) (c2 v a1 h)
    · exact h
    · exact absurd ((conv u a2).2 b2) (c1 u a2 h)

theorem fitGo_step {f : Int → Int} {fr long n : Int} (hl : 1 ≤ long) (a x u b : Int) (rest : Int → Int)
    (hb : b ≤ 300) (hab : a < b) (hf : ∀ t, a ≤ t → t < b → f t = x)
    (hu : fr ≤ u) (hno : ∀ t, fr ≤ t → t < u → ¬ Fits f long n t) (hyes : ∀ t, u ≤ t → t < a → n ≤ f t) (hau : a < u + long)
    (hrest : ∀ w, fr ≤ w → w ≤ 300 - long → (∀ t, fr ≤ t → t < w → ¬ Fits f long n t) → (∀ t, w ≤ t → t < b → n ≤ f t) → b < w + long → First f fr long n (rest w)) :
    First f fr long n (if b ≤ u then (if 300 - long + 1 ≤ u then -1 else rest u) else if x < n then (if 300 - long + 1 ≤ b then -1 else rest b)
      else if u + long ≤ b then u else if 300 - long + 1 ≤ u then -1 else rest u) := by
  have none : ∀ w, 300 - long + 1 ≤ w → (∀ t, fr ≤ t → t < w → ¬ Fits f long n t) → First f fr long n (-1) := fun w hw h =>
    .inl ⟨rfl, fun t ht hft => h t ht (by have := hft.1; omega) hft⟩
  split
  · split
    · exact none u (by omega) hno
    · exact hrest u hu (by omega) hno (fun t h1 h2 => absurd h1 (by omega)) (by omega)
  · split
    · rename_i h1 h2
      have hno' : ∀ t, fr ≤ t → t < b → ¬ Fits f long n t := fun t ht1 ht2 hft => by
        by_cases hta : t < u
        · exact hno t ht1 hta hft
        · by_cases hta2 : t < a
          · have := hft.2 a (by omega) (by omega)
            rw [hf a (by omega) hab] at this; omega
          · have := hft.2 t (by omega) (by omega)
            rw [hf t (by omega) ht2] at this; omega
      split
      · exact none b (by omega) hno'
      · exact hrest b (by omega) (by omega) hno' (fun t h3 h4 => absurd h3 (by omega)) (by omega)
    · rename_i h1 h2
      have hy : ∀ t, u ≤ t → t < b → n ≤ f t := fun t h3 h4 => by
        by_cases hta : t < a
        · exact hyes t h3 hta
        · rw [hf t (by omega) h4]; omega
      split
      · exact .inr ⟨hu, ⟨by omega, fun k h3 h4 => hy k h3 (by omega)⟩, hno⟩
      · split
        · exact none u (by omega) hno
        · exact hrest u hu (by omega) hno hy (by omega)

theorem fitGo_first {f : Int → Int} {fr long n : Int} (hl : 1 ≤ long) (r : Prof) : ∀ (a x u : Int), WChain a r → (∀ t, a ≤ t → t < 300 → f t = vl x r t) → a < 300 →
    fr ≤ u → (∀ t, fr ≤ t → t < u → ¬ Fits f long n t) → (∀ t, u ≤ t → t < a → n ≤ f t) → a < u + long →
    First f fr long n (fitGo long n u ((a, x) :: r)) := by
  induction r with
  | nil =>
    intro a x u _ hf ha hu hno hyes hau
    simp only [fitGo, nextAt]
    exact fitGo_step hl a x u 300 (fun _ => -1) (by omega) ha (fun t h1 h2 => hf t h1 h2) hu hno hyes hau (fun w _ hw _ _ h => absurd h (by omega))
  | cons s r ih =>
    intro a x u hr hf ha hu hno hyes hau
    obtain ⟨b, y⟩ := s
    obtain ⟨h1, h2, h3⟩ := hr
    rw [fitGo]
    exact fitGo_step hl a x u b (fun w => fitGo long n w ((b, y) :: r)) (by omega) h1 (fun t g1 g2 => by rw [hf t g1 (by omega)]; simp only [vl]; rw [if_neg (by omega)]) hu hno hyes hau
      (fun w g1 _ g3 g4 g5 => ih b y w h3 (fun t g6 g7 => by rw [hf t (by omega) g7]; simp only [vl]; rw [if_pos g6]) h2 g1 g3 g4 g5)

theorem fitL_first {l : Prof} {fr long n : Int} (hg : Good l) (h0 : 0 ≤ fr) (h1 : 1 ≤ long) (h2 : long ≤ 300) (h3 : 0 ≤ n) : First (val l) fr long n (fitL l fr long n) := by
  have hb := (goodB_iff l).2 hg
  unfold fitL
  rw [if_pos ⟨hb, h0, h1, h2, h3⟩]
  obtain ⟨x, r, rfl, _, _, hr⟩ := hg
  exact fitGo_first h1 r 0 x fr hr.weak (fun t _ _ => rfl) (by omega) (Int.le_refl _) (fun t g1 g2 => absurd g1 (by omega)) (fun t g1 g2 => absurd g1 (by omega)) (by omega)

theorem fitL_bad {l : Prof} {fr long n : Int} (h : ¬ (Good l ∧ 0 ≤ fr ∧ 1 ≤ long ∧ long ≤ 300 ∧ 0 ≤ n)) : fitL l fr long n = -1 := by
  unfold fitL
  rw [if_neg]
  rintro ⟨h1, h2⟩
  exact h ⟨(goodB_iff l).1 h1, h2⟩

/-! What is free at a time, as the program asks. -/
def atL (l : Prof) (t : Int) : Int := l.foldl (fun n s => if s.1 ≤ t ∧ t < 300 then s.2 else n) 0

theorem foldl_vl {a : Int} {r : Prof} (h : WChain a r) (x t : Int) (ht : t < 300) : r.foldl (fun n s => if s.1 ≤ t ∧ t < 300 then s.2 else n) x = vl x r t := by
  induction r generalizing a x with
  | nil => rfl
  | cons s r ih =>
    obtain ⟨b, y⟩ := s
    obtain ⟨_, _, h3⟩ := h
    simp only [List.foldl_cons, vl]
    by_cases hb : b ≤ t
    · rw [if_pos ⟨hb, ht⟩, if_pos hb]; exact ih h3 y
    · rw [if_neg (by omega), if_neg hb]
      rw [ih h3 x, vl_ahead h3 (by omega)]

theorem atL_good {l : Prof} (h : Good l) (t : Int) : atL l t = if 0 ≤ t ∧ t < 300 then val l t else 0 := by
  obtain ⟨x, r, rfl, _, _, hr⟩ := h
  simp only [atL, List.foldl_cons, val]
  by_cases h3 : t < 300
  · by_cases h0 : 0 ≤ t
    · rw [if_pos ⟨h0, h3⟩, if_pos ⟨h0, h3⟩]; exact foldl_vl hr.weak x t h3
    · rw [if_neg (by omega), if_neg (by omega)]
      rw [foldl_vl hr.weak 0 t h3, vl_ahead hr.weak (by omega)]
  · rw [if_neg (by omega), if_neg (by omega)]
    have : ∀ (q : Prof) (y : Int), q.foldl (fun n s => if s.1 ≤ t ∧ t < 300 then s.2 else n) y = y := by
      intro q
      induction q with
      | nil => intro y; rfl
      | cons s q ih => intro y; rw [List.foldl_cons, if_neg (by omega)]; exact ih y
    exact this r 0


/-! What is free, time by time: 300 numbers. -/

def stepsTo (g : List Int) : Nat → Prof
  | 0 => []
  | k + 1 => stepsTo g k ++ if k = 0 ∨ g.getD k 0 ≠ g.getD (k - 1) 0 then [((k : Int), g.getD k 0)] else []

theorem chain_snoc {b y : Int} (r : Prof) : ∀ {a x : Int}, Chain a x r → a < b → (∀ s ∈ r, s.1 < b) → b < 300 → 0 ≤ y → y ≤ 16 → y ≠ vl x r b → Chain a x (r ++ [(b, y)]) := by
  induction r with
  | nil => intro a x _ h1 _ h2 h3 h4 h5; exact ⟨h1, h2, h5, h3, h4, trivial⟩
  | cons s r ih =>
    intro a x h h1 h2 h3 h4 h5 h6
    obtain ⟨c, z⟩ := s
    obtain ⟨g1, g2, g3, g4, g5, g6⟩ := h
    have hc : c < b := h2 (c, z) (by simp)
    refine ⟨g1, g2, g3, g4, g5, ih g6 hc (fun s hs => h2 s (by simp [hs])) h3 h4 h5 ?_⟩
    simp only [vl] at h6; rwa [if_pos (by omega)] at h6

theorem vl_snoc {b y t : Int} (r : Prof) : ∀ {x : Int}, (∀ s ∈ r, s.1 < b) → vl x (r ++ [(b, y)]) t = if b ≤ t then y else vl x r t := by
  induction r with
  | nil => intro x _; simp [vl]
  | cons s r ih =>
    intro x h
    obtain ⟨c, z⟩ := s
    have hc : c < b := h (c, z) (by simp)
    simp only [List.cons_append, vl]
    rw [ih fun s hs => h s (by simp [hs])]
    by_cases hb : b ≤ t
    · rw [if_pos hb, if_pos hb, if_pos (by omega)]
    · rw [if_neg hb, if_neg hb]

theorem stepsTo_good (g : List Int) (hg : ∀ i, i < 300 → 0 ≤ g.getD i 0 ∧ g.getD i 0 ≤ 16) : ∀ k, k < 300 →
    ∃ r, stepsTo g (k + 1) = (0, g.getD 0 0) :: r ∧ Chain 0 (g.getD 0 0) r ∧ (∀ s ∈ r, s.1 ≤ k) ∧
      (∀ t : Nat, t ≤ k → vl (g.getD 0 0) r t = g.getD t 0) ∧ ∀ t : Int, k ≤ t → vl (g.getD 0 0) r t = g.getD k 0 := by
  intro k
  induction k with
  | zero => intro _; exact ⟨[], by simp [stepsTo], trivial, by simp, fun t ht => by rw [Nat.le_zero.1 ht]; rfl, fun t _ => rfl⟩
  | succ k ih =>
    intro hk
    obtain ⟨r, e, hc, hlt, h1, h2⟩ := ih (by omega)
    rw [stepsTo, e]
    by_cases hd : g.getD (k + 1) 0 = g.getD k 0
    · rw [if_neg (by simp only [Nat.add_sub_cancel]; omega)]
      refine ⟨r, by simp, hc, fun s hs => by have := hlt s hs; omega, fun t ht => ?_, fun t ht => ?_⟩
      · by_cases htk : t ≤ k
        · exact h1 t htk
        · obtain rfl : t = k + 1 := by omega
          rw [h2 _ (by omega), hd]
      · rw [h2 t (by omega), hd]
    · rw [if_pos (.inr (by simpa using hd))]
      have hlt' : ∀ s ∈ r, s.1 < ((k + 1 : Nat) : Int) := fun s hs => by have := hlt s hs; omega
      refine ⟨r ++ [(((k + 1 : Nat) : Int), g.getD (k + 1) 0)], by simp, ?_, ?_, fun t ht => ?_, fun t ht => ?_⟩
      · refine chain_snoc r hc (by omega) hlt' (by omega) (hg _ hk).1 (hg _ hk).2 ?_
        rw [h2 _ (by omega)]; exact hd
      · intro s hs
        rcases List.mem_append.1 hs with hs | hs
        · have := hlt s hs; omega
        · simp at hs; rw [hs]; simp
      · rw [vl_snoc r hlt']
        by_cases htk : t ≤ k
        · rw [if_neg (by omega)]; exact h1 t htk
        · obtain rfl : t = k + 1 := by omega
          rw [if_pos (by omega)]
      · rw [vl_snoc r hlt', if_pos ht]

theorem steps_good {g : List Int} (hg : ∀ i, i < 300 → 0 ≤ g.getD i 0 ∧ g.getD i 0 ≤ 16) :
    Good (stepsTo g 300) ∧ ∀ t : Nat, t < 300 → val (stepsTo g 300) t = g.getD t 0 := by
  obtain ⟨r, e, hc, _, h1, _⟩ := stepsTo_good g hg 299 (by omega)
  rw [e]
  exact ⟨⟨_, r, rfl, (hg 0 (by omega)).1, (hg 0 (by omega)).2, hc⟩, fun t ht => h1 t (by omega)⟩

theorem steps_eq {g : List Int} {l : Prof} (hl : Good l) (h : ∀ t : Nat, t < 300 → val l t = g.getD t 0) : stepsTo g 300 = l := by
  have hg : ∀ i, i < 300 → 0 ≤ g.getD i 0 ∧ g.getD i 0 ≤ 16 := fun i hi => by rw [← h i hi]; exact val_range hl _
  obtain ⟨h1, h2⟩ := steps_good hg
  refine good_ext h1 hl fun t ht1 ht2 => ?_
  obtain ⟨n, rfl⟩ := Int.eq_ofNat_of_zero_le ht1
  rw [h2 n (by omega), h n (by omega)]

/-- What a profile means, as 300 numbers. -/
def freeL (l : Prof) : List Int := (List.range 300).map fun t : Nat => val l (t : Int)

theorem freeL_len (l : Prof) : (freeL l).length = 300 := by simp [freeL]
theorem freeL_get (l : Prof) (t : Nat) (h : t < 300) : (freeL l).getD t 0 = val l t := by
  rw [List.getD_eq_getElem?_getD]
  simp [freeL, List.getElem?_map, List.getElem?_range h]

/-- So many fewer from one time on, up to ahead of another one, one by one; false: at some time too few or too many (and it as it was). -/
def lessOk (g : List Int) (fr to n : Int) : Bool := (List.range 300).all fun t : Nat => !(decide (fr ≤ (t : Int)) && decide ((t : Int) < to)) || (decide (0 ≤ g.getD t 0 - n) && decide (g.getD t 0 - n ≤ 16))
def lessL (g : List Int) (fr to n : Int) : List Int := (List.range 300).map fun t : Nat => if fr ≤ (t : Int) ∧ (t : Int) < to then g.getD t 0 - n else g.getD t 0

theorem lessL_len (g : List Int) (fr to n : Int) : (lessL g fr to n).length = 300 := by simp [lessL]
theorem lessL_get (g : List Int) (fr to n : Int) (t : Nat) (h : t < 300) : (lessL g fr to n).getD t 0 = if fr ≤ (t : Int) ∧ (t : Int) < to then g.getD t 0 - n else g.getD t 0 := by
  rw [List.getD_eq_getElem?_getD]
  simp [lessL, List.getElem?_map, List.getElem?_range h]

theorem lessOk_iff (g : List Int) (fr to n : Int) (h1 : to ≤ 300) : lessOk g fr to n = true ↔ ∀ t : Nat, fr ≤ t → (t : Int) < to → 0 ≤ g.getD t 0 - n ∧ g.getD t 0 - n ≤ 16 := by
  simp only [lessOk, List.all_eq_true, List.mem_range, Bool.or_eq_true, Bool.not_eq_true', Bool.and_eq_false_iff, Bool.and_eq_true, decide_eq_true_eq, decide_eq_false_iff_not]
  constructor
  · intro h t ht1 ht2
    rcases h t (by omega) with h | h
    · omega
    · exact h
  · intro h t _
    by_cases hc : fr ≤ (t : Int) ∧ (t : Int) < to
    · exact .inr (h t hc.1 hc.2)
    · left; omega

/-- TAKING, two ways: by steps and by times. -/
theorem add_less {l : Prof} {g : List Int} {fr to n : Int} (hg : Good l) (hlg : ∀ t : Nat, t < 300 → val l t = g.getD t 0) (h0 : 0 ≤ fr) (h1 : fr ≤ to) (h2 : to ≤ 300) :
    (addL l fr to (-n)).2 = lessOk g fr to n ∧ ((addL l fr to (-n)).2 = true → Good (addL l fr to (-n)).1 ∧ ∀ t : Nat, t < 300 → val (addL l fr to (-n)).1 t = (lessL g fr to n).getD t 0) := by
  obtain ⟨a1, a2, _⟩ := addL_good (n := -n) hg h0 h1 h2
  refine ⟨?_, fun h => ⟨(a2 h).1, fun t ht => ?_⟩⟩
  · rw [Bool.eq_iff_iff, a1, lessOk_iff g fr to n h2]
    constructor
    · intro h t ht1 ht2
      have := h t ht1 ht2
      rw [hlg t (by omega)] at this; omega
    · intro h t ht1 ht2
      obtain ⟨m, rfl⟩ := Int.eq_ofNat_of_zero_le (show 0 ≤ t by omega)
      have := h m ht1 ht2
      rw [hlg m (by omega)]; omega
  · rw [(a2 h).2 t (by omega) (by omega), lessL_get g fr to n t ht, hlg t ht]
    split <;> omega

/-! By places: where a time falls. -/

theorem weak_sorted (r : Prof) : ∀ (a x : Int), WChain a r → ∀ i j, i < j → j < ((a, x) :: r).length → (((a, x) :: r).getD i (0, 0)).1 < (((a, x) :: r).getD j (0, 0)).1 := by
  induction r with
  | nil => intro a x _ i j hij hj; simp at hj; omega
  | cons s r ih =>
    intro a x h i j hij hj
    obtain ⟨b, y⟩ := s
    obtain ⟨h1, h2, h3⟩ := h
    cases j with
    | zero => omega
    | succ j =>
      cases i with
      | zero =>
        simp only [List.getD_cons_zero, List.getD_cons_succ]
        cases j with
        | zero => simpa using h1
        | succ j =>
          have := ih b y h3 0 (j + 1) (by omega) (by simpa using hj)
          simp only [List.getD_cons_zero] at this
          exact Int.lt_trans h1 this
      | succ i =>
        simp only [List.getD_cons_succ]
        exact ih b y h3 i j (by omega) (by simpa using hj)

theorem weak_bounds (r : Prof) : ∀ (a x : Int), 0 ≤ a → a < 300 → WChain a r → ∀ i, i < ((a, x) :: r).length → 0 ≤ (((a, x) :: r).getD i (0, 0)).1 ∧ (((a, x) :: r).getD i (0, 0)).1 < 300 := by
  induction r with
  | nil => intro a x h0 h1 _ i hi; simp at hi; subst hi; simp; omega
  | cons s r ih =>
    intro a x h0 h1 h i hi
    obtain ⟨b, y⟩ := s
    obtain ⟨g1, g2, g3⟩ := h
    cases i with
    | zero => simp; omega
    | succ i => simp only [List.getD_cons_succ]; exact ih b y (by omega) g2 g3 i (by simpa using hi)

structure Rises (l : Prof) : Prop where
  lt : ∀ i j, i < j → j < l.length → (l.getD i (0, 0)).1 < (l.getD j (0, 0)).1
  bd : ∀ i, i < l.length → 0 ≤ (l.getD i (0, 0)).1 ∧ (l.getD i (0, 0)).1 < 300

theorem WGood.rises {l : Prof} (h : WGood l) : Rises l := by
  obtain ⟨x, r, rfl, hr⟩ := h
  exact ⟨weak_sorted r 0 x hr, weak_bounds r 0 x (by omega) (by omega) hr⟩

theorem cnt_eq (t : Int) : ∀ (l : Prof) (i : Nat), i ≤ l.length → (∀ j, j < i → (l.getD j (0, 0)).1 < t) → (i < l.length → t ≤ (l.getD i (0, 0)).1) → cnt l t = i := by
  intro l
  induction l with
  | nil => intro i hi _ _; simp at hi; simp [cnt, hi]
  | cons s l ih =>
    intro i hi h1 h2
    cases i with
    | zero =>
      have := h2 (by simp)
      simp only [List.getD_cons_zero] at this
      simp [cnt, List.takeWhile, show ¬ s.1 < t by omega]
    | succ i =>
      have h0 := h1 0 (by omega)
      simp only [List.getD_cons_zero] at h0
      have := ih i (by simpa using hi) (fun j hj => by simpa using h1 (j + 1) (by omega)) (fun hlt => by simpa using h2 (by simpa using hlt))
      simp only [cnt] at this
      simp [cnt, List.takeWhile, h0, this]

theorem hasAt_eq {l : Prof} {t : Int} {i : Nat} (hr : Rises l) (h1 : ∀ j, j < i → (l.getD j (0, 0)).1 < t) (h2 : i < l.length → t ≤ (l.getD i (0, 0)).1) :
    hasAt l t = (decide (i < l.length) && decide ((l.getD i (0, 0)).1 = t)) := by
  rw [Bool.eq_iff_iff]
  simp only [hasAt, List.any_eq_true, decide_eq_true_eq, Bool.and_eq_true]
  constructor
  · rintro ⟨s, hs, e⟩
    obtain ⟨j, hj, rfl⟩ := List.mem_iff_getElem.1 hs
    have ej : l.getD j (0, 0) = l[j] := by rw [List.getD_eq_getElem?_getD, List.getElem?_eq_getElem hj]; rfl
    rw [← ej] at e
    have hij : i ≤ j := by
      rcases Nat.lt_or_ge j i with h | h
      · have := h1 j h; omega
      · exact h
    have := h2 (by omega)
    rcases Nat.eq_or_lt_of_le hij with rfl | hlt
    · exact ⟨hj, e⟩
    · have := hr.lt i j hlt hj; omega
  · rintro ⟨h, e⟩
    refine ⟨l[i], List.getElem_mem _, ?_⟩
    have ej : l.getD i (0, 0) = l[i] := by rw [List.getD_eq_getElem?_getD, List.getElem?_eq_getElem h]; rfl
    rw [← ej]; exact e

/-! Compaction, element by element. -/

def lastF : Int → Prof → Int
  | x, [] => x
  | _, (_, y) :: r => lastF y r

theorem cmpt_snoc (s : Stp) (r : Prof) : ∀ x, cmpt x (r ++ [s]) = cmpt x r ++ if s.2 = lastF x r then [] else [s] := by
  induction r with
  | nil => intro x; obtain ⟨b, y⟩ := s; simp only [List.nil_append, cmpt, lastF]; rfl
  | cons q r ih =>
    intro x
    obtain ⟨b, y⟩ := q
    simp only [List.cons_append, cmpt, lastF]
    by_cases h : y = x
    · subst h; rw [if_pos rfl, if_pos rfl, ih]; rfl
    · rw [if_neg h, if_neg h, ih]; rfl

theorem lastF_get (r : Prof) : ∀ (a x : Int), lastF x r = (((a, x) :: r).getD r.length (0, 0)).2 := by
  induction r with
  | nil => intro a x; rfl
  | cons q r ih => intro a x; obtain ⟨b, y⟩ := q; simp only [lastF, List.length_cons, List.getD_cons_succ]; exact ih b y

theorem tidy_snoc (s : Stp) {l : Prof} (h : 0 < l.length) : tidyL (l ++ [s]) = tidyL l ++ if s.2 = (l.getD (l.length - 1) (0, 0)).2 then [] else [s] := by
  cases l with
  | nil => simp at h
  | cons q r =>
    obtain ⟨a, x⟩ := q
    simp only [List.cons_append, tidyL, cmpt_snoc, List.length_cons, Nat.add_sub_cancel]
    rw [lastF_get r a x]

theorem tidy_take {l : Prof} {m : Nat} (h : m + 1 < l.length) :
    tidyL (l.take (m + 1 + 1)) = tidyL (l.take (m + 1)) ++ if (l.getD (m + 1) (0, 0)).2 = (l.getD m (0, 0)).2 then [] else [l.getD (m + 1) (0, 0)] := by
  have e : l.take (m + 1 + 1) = l.take (m + 1) ++ [l.getD (m + 1) (0, 0)] := by
    rw [List.take_succ_eq_append_getElem h, List.getD_eq_getElem?_getD, List.getElem?_eq_getElem h]; rfl
  rw [e, tidy_snoc _ (by rw [List.length_take]; omega)]
  have hl : (l.take (m + 1)).length - 1 = m := by rw [List.length_take]; omega
  rw [hl]
  have : (l.take (m + 1)).getD m (0, 0) = l.getD m (0, 0) := by
    simp only [List.getD_eq_getElem?_getD, List.getElem?_take]; rw [if_pos (by omega)]
  rw [this]

theorem tidy_one (l : Prof) (h : l.length ≤ 1) : tidyL l = l := by
  match l, h with
  | [], _ => rfl
  | [s], _ => obtain ⟨a, x⟩ := s; rfl

theorem tidy_len (l : Prof) : (tidyL l).length ≤ l.length := by
  have : ∀ (r : Prof) (x : Int), (cmpt x r).length ≤ r.length := by
    intro r
    induction r with
    | nil => intro x; simp [cmpt]
    | cons q r ih =>
      intro x
      obtain ⟨b, y⟩ := q
      simp only [cmpt]
      split
      · have := ih x; simp only [List.length_cons]; omega
      · have := ih y; simp only [List.length_cons]; omega
  cases l with
  | nil => simp [tidyL]
  | cons q r => obtain ⟨a, x⟩ := q; simp only [tidyL, List.length_cons]; have := this r x; omega

end Go.Proofs.Ytifmdkcpbajdcaa.Plain
