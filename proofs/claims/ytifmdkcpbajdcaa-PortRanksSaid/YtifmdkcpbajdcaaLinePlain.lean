/- Plain laws: orders as text. What a line tells; what is printed of an order is read as it; whatever is read is a good order. -/
import Derived.Test.YtifmdkcpbajdcaaOrderPlain
import Derived.Lib.AtoiAll
import Derived.Lib.ItoaNum
import Derived.Lib.SplitLaws
namespace Go.Proofs.Ytifmdkcpbajdcaa.Plain

abbrev Txt := List UInt8

/-! Words of a text. -/

def toksGo (acc : Txt) : Txt → List Txt
  | [] => if acc = [] then [] else [acc]
  | c :: r => if c = 32 then (if acc = [] then toksGo [] r else acc :: toksGo [] r) else toksGo (acc ++ [c]) r

def toks (s : Txt) : List Txt := toksGo [] s

theorem toksGo_plain (a acc r : Txt) (h : ∀ c ∈ a, c ≠ 32) : toksGo acc (a ++ r) = toksGo (acc ++ a) r := by
  induction a generalizing acc with
  | nil => simp
  | cons c a ih =>
    rw [List.cons_append, toksGo, if_neg (h c (by simp)), ih _ fun d hd => h d (by simp [hd])]
    simp

theorem toks_cut (a r : Txt) (h : ∀ c ∈ a, c ≠ 32) : toks (a ++ 32 :: r) = (if a = [] then [] else [a]) ++ toks r := by
  unfold toks
  rw [toksGo_plain a [] _ h, List.nil_append, toksGo, if_pos rfl]
  split <;> rfl

theorem toks_last (a : Txt) (h : ∀ c ∈ a, c ≠ 32) : toks a = if a = [] then [] else [a] := by
  unfold toks
  have := toksGo_plain a [] [] h
  rw [List.append_nil, List.nil_append] at this
  rw [this, toksGo]

/-- A text is without a space, or is cut at its first one. -/
theorem cut_or (s : Txt) : (∀ c ∈ s, c ≠ 32) ∨ ∃ a r, s = a ++ 32 :: r ∧ ∀ c ∈ a, c ≠ 32 := by
  induction s with
  | nil => exact .inl (by simp)
  | cons c s ih =>
    by_cases hc : c = 32
    · exact .inr ⟨[], s, by rw [hc]; rfl, by simp⟩
    · rcases ih with h | ⟨a, r, e, h⟩
      · left; intro d hd; rcases List.mem_cons.1 hd with rfl | hd; exact hc; exact h d hd
      · right; refine ⟨c :: a, r, by rw [e]; rfl, ?_⟩
        intro d hd; rcases List.mem_cons.1 hd with rfl | hd; exact hc; exact h d hd

theorem toks_ne : ∀ (s acc : Txt), ∀ w ∈ toksGo acc s, w ≠ []
  | [], acc, w, hw => by
    rw [toksGo] at hw
    split at hw
    · cases hw
    · rename_i h; rw [List.mem_singleton] at hw; rw [hw]; exact h
  | c :: r, acc, w, hw => by
    rw [toksGo] at hw
    split at hw
    · split at hw
      · exact toks_ne r [] w hw
      · rename_i h
        rcases List.mem_cons.1 hw with rfl | hw
        · exact h
        · exact toks_ne r [] w hw
    · exact toks_ne r _ w hw

theorem index_space (a r : Txt) (h : ∀ c ∈ a, c ≠ 32) : Lib.index (a ++ 32 :: r) [32] = (a.length : Int) := by
  refine Lib.index_first (by simp) (by simp [Lib.occAt]) fun j hj => ?_
  have hne := h _ (List.getElem_mem hj)
  rw [Lib.occAt]
  have hd : (a ++ 32 :: r).drop j = a[j] :: (a ++ 32 :: r).drop (j + 1) := by
    rw [List.drop_eq_getElem_cons (by simp; omega)]
    congr 1
    rw [List.getElem_append_left hj]
  rw [hd]; simp [List.isPrefixOf, Ne.symm hne]

theorem index_none (a : Txt) (h : ∀ c ∈ a, c ≠ 32) : Lib.index a [32] = -1 := by
  refine Lib.index_past (i := a.length) (by simp) (fun j hj => ?_) (by simp)
  have hne := h _ (List.getElem_mem hj)
  rw [Lib.occAt]
  have hd : a.drop j = a[j] :: a.drop (j + 1) := List.drop_eq_getElem_cons hj
  rw [hd]; simp [List.isPrefixOf, Ne.symm hne]

theorem split_cut (a r : Txt) (h : ∀ c ∈ a, c ≠ 32) : Lib.split (a ++ 32 :: r) [32] = a :: Lib.split r [32] := by
  have hi := index_space a r h
  have hd : (a ++ 32 :: r).drop (a.length + 1) = r := by
    rw [← List.drop_drop, List.drop_left]; rfl
  have hc : Lib.count (a ++ 32 :: r) [32] = 1 + Lib.count r [32] := by
    have := Lib.count_hit (sub := [32]) (by simp) hi
    rwa [show a.length + [(32 : UInt8)].length = a.length + 1 from rfl, hd] at this
  unfold Lib.split
  rw [hc, Nat.add_comm, Lib.splitK, hi]
  have hm : ¬ (((a.length : Int) == -1) = true) := fun e => by have := beq_iff_eq.1 e; omega
  rw [if_neg hm, Int.toNat_natCast, Nat.add_zero, List.take_left, show [(32 : UInt8)].length = 1 from rfl, hd]

theorem split_last (a : Txt) (h : ∀ c ∈ a, c ≠ 32) : Lib.split a [32] = [a] := by
  unfold Lib.split
  rw [Lib.count_miss (index_none a h), Lib.splitK]

theorem toks_split : ∀ (n : Nat) (s : Txt), s.length ≤ n → (Lib.split s [32]).filter (fun w => !w.isEmpty) = toks s := by
  intro n
  induction n with
  | zero =>
    intro s hs
    obtain rfl : s = [] := List.eq_nil_of_length_eq_zero (by omega)
    rw [split_last [] (by simp), toks_last [] (by simp)]; rfl
  | succ n ih =>
    intro s hs
    rcases cut_or s with h | ⟨a, r, rfl, h⟩
    · rw [split_last s h, toks_last s h]
      cases s <;> simp
    · rw [split_cut a r h, toks_cut a r h, List.filter_cons, ih r (by simp at hs; omega)]
      cases a <;> simp

/-! Numbers. -/

def numVal (acc : Nat) (l : Txt) : Nat := l.foldl (fun a c => a * 10 + (c.toNat - 48)) acc
def isDig (c : UInt8) : Bool := decide (48 ≤ c.toNat) && decide (c.toNat ≤ 57)

theorem numVal_ge (l : Txt) : ∀ acc, acc ≤ numVal acc l := by
  induction l with
  | nil => intro acc; exact Nat.le_refl _
  | cons c l ih => intro acc; have := ih (acc * 10 + (c.toNat - 48)); unfold numVal at *; rw [List.foldl_cons]; omega

theorem parse_val (l : Txt) : ∀ acc, (∀ c ∈ l, isDig c = true) → numVal acc l < 9223372036854775808 → Lib.parseUint10 acc l = .ok (numVal acc l) := by
  induction l with
  | nil => intro acc _ _; rfl
  | cons c l ih =>
    intro acc hd hv
    have hc := hd c (by simp)
    unfold isDig at hc
    simp only [Bool.and_eq_true, decide_eq_true_eq] at hc
    have hge := numVal_ge l (acc * 10 + (c.toNat - 48))
    have hv' : numVal (acc * 10 + (c.toNat - 48)) l < 9223372036854775808 := hv
    rw [Lib.parseUint10, if_pos hc, if_neg (by omega), if_neg (by omega)]
    rw [ih _ (fun d hd' => hd d (by simp [hd'])) hv']
    rfl

theorem parse_dig (l : Txt) : ∀ acc v, Lib.parseUint10 acc l = .ok v → (∀ c ∈ l, isDig c = true) ∧ numVal acc l = v := by
  induction l with
  | nil => intro acc v h; simp only [Lib.parseUint10, Lib.NumEnd.ok.injEq] at h; exact ⟨by simp, h⟩
  | cons c l ih =>
    intro acc v h
    rw [Lib.parseUint10] at h
    split at h
    · rename_i hc
      split at h
      · cases h
      · split at h
        · cases h
        · obtain ⟨h1, h2⟩ := ih _ _ h
          refine ⟨fun d hd => ?_, h2⟩
          rcases List.mem_cons.1 hd with rfl | hd
          · simp [isDig, hc]
          · exact h1 d hd
    · cases h

theorem dig_toNat {k : Nat} (h : k < 10) : (UInt8.ofNat (48 + k)).toNat = 48 + k := by
  rw [UInt8.toNat_ofNat']; omega

theorem dec_dig (u : Nat) : ∀ c ∈ Lib.decDigits u, isDig c = true := by
  induction u using Nat.strongRecOn with
  | _ u ih =>
    intro c hc
    rw [Lib.decDigits] at hc
    split at hc
    · rename_i h
      rw [List.mem_singleton] at hc
      subst hc
      simp only [isDig, dig_toNat h, Bool.and_eq_true, decide_eq_true_eq]; omega
    · rcases List.mem_append.1 hc with hc | hc
      · exact ih _ (by omega) c hc
      · rw [List.mem_singleton] at hc
        subst hc
        simp only [isDig, dig_toNat (show u % 10 < 10 by omega), Bool.and_eq_true, decide_eq_true_eq]; omega

theorem dec_val (u : Nat) : numVal 0 (Lib.decDigits u) = u := by
  induction u using Nat.strongRecOn with
  | _ u ih =>
    rw [Lib.decDigits]
    split
    · rename_i h
      simp only [numVal, List.foldl_cons, List.foldl_nil, dig_toNat h]; omega
    · rename_i h
      have := ih (u / 10) (by omega)
      unfold numVal at *
      rw [List.foldl_append, this]
      simp only [List.foldl_cons, List.foldl_nil, dig_toNat (show u % 10 < 10 by omega)]; omega

theorem dec_ne (u : Nat) : Lib.decDigits u ≠ [] := by
  rw [Lib.decDigits]; split <;> simp

theorem dec_len (u : Nat) : ∀ k, u < 10 ^ k → 1 ≤ k → (Lib.decDigits u).length ≤ k := by
  induction u using Nat.strongRecOn with
  | _ u ih =>
    intro k hk h1
    rw [Lib.decDigits]
    split
    · simp; exact h1
    · rename_i h
      cases k with
      | zero => omega
      | succ k =>
        have hk1 : 1 ≤ k := by
          rcases Nat.eq_zero_or_pos k with h0 | h0
          · subst h0; simp at hk; omega
          · exact h0
        have := ih (u / 10) (by omega) k (by rw [Nat.pow_succ] at hk; omega) hk1
        simp; omega

theorem mag_dec (u : Nat) (h : u < 9223372036854775808) : Lib.parseMag (Lib.decDigits u) = .ok u := by
  unfold Lib.parseMag
  rw [if_neg (dec_ne u), parse_val _ 0 (dec_dig u) (by rw [dec_val]; exact h), dec_val]

/-- What is printed of a number is read as it. -/
theorem atoi_itoa (n : Int) (h0 : -1073741824 ≤ n) (h1 : n ≤ 1073741824) : Lib.atoiAll (Lib.itoa n) = .ok n := by
  unfold Lib.itoa
  by_cases hn : n < 0
  · rw [if_pos hn]
    simp only [Lib.atoiAll]
    rw [if_pos (.inr (by decide)), mag_dec _ (by omega)]
    simp only []
    rw [if_neg (by intro h; exact h.1 (by decide)), if_neg (by omega), if_pos (by decide)]
    congr 1; omega
  · rw [if_neg hn]
    obtain ⟨c, r, e⟩ : ∃ c r, Lib.decDigits n.toNat = c :: r := by
      cases hd : Lib.decDigits n.toNat with
      | nil => exact absurd hd (dec_ne _)
      | cons c r => exact ⟨c, r, rfl⟩
    have hc := dec_dig n.toNat c (by rw [e]; simp)
    unfold isDig at hc
    simp only [Bool.and_eq_true, decide_eq_true_eq] at hc
    have hm := mag_dec n.toNat (by omega)
    rw [e] at hm ⊢
    simp only [Lib.atoiAll]
    rw [if_neg (by omega), hm]
    simp only []
    rw [if_neg (by omega), if_neg (by omega), if_neg (by omega)]
    congr 1; omega

theorem itoa_inj {a b : Int} (ha : -1073741824 ≤ a ∧ a ≤ 1073741824) (hb : -1073741824 ≤ b ∧ b ≤ 1073741824) (h : Lib.itoa a = Lib.itoa b) : a = b := by
  have h1 := atoi_itoa a ha.1 ha.2
  rw [h, atoi_itoa b hb.1 hb.2] at h1
  injection h1 with h1
  exact h1.symm

theorem itoa_len (n : Int) (h0 : -1073741824 ≤ n) (h1 : n ≤ 1073741824) : (Lib.itoa n).length ≤ 11 := by
  unfold Lib.itoa
  split
  · have := dec_len n.natAbs 10 (by omega) (by omega)
    simp; omega
  · have := dec_len n.toNat 10 (by omega) (by omega)
    omega

theorem itoa_chars (n : Int) : ∀ c ∈ Lib.itoa n, c ≠ 32 := by
  intro c hc e
  subst e
  unfold Lib.itoa at hc
  split at hc
  · rcases List.mem_cons.1 hc with h | h
    · exact absurd h (by decide)
    · exact absurd (dec_dig _ _ h) (by decide)
  · exact absurd (dec_dig _ _ hc) (by decide)

theorem itoa_ne (n : Int) : Lib.itoa n ≠ [] := by
  unfold Lib.itoa
  split
  · simp
  · exact dec_ne _

def inLim (v : Int) : Bool := decide (-1073741824 ≤ v) && decide (v ≤ 1073741824)

def numOf (x : Txt) : Option Int :=
  match Lib.atoiAll x with
  | .ok v => if Lib.itoa v = x ∧ inLim v = true then some v else none
  | _ => none

theorem numOf_iff (x : Txt) (v : Int) : numOf x = some v ↔ Lib.itoa v = x ∧ inLim v = true := by
  unfold numOf
  constructor
  · intro h
    split at h
    · split at h
      · injection h with h; subst h; assumption
      · cases h
    · cases h
  · rintro ⟨h1, h2⟩
    have h2' := h2
    simp only [inLim, Bool.and_eq_true, decide_eq_true_eq] at h2'
    rw [← h1, atoi_itoa v h2'.1 h2'.2]
    show (if Lib.itoa v = Lib.itoa v ∧ inLim v = true then some v else none) = some v
    rw [if_pos ⟨rfl, h2⟩]

theorem numOf_itoa {v : Int} (h : inLim v = true) : numOf (Lib.itoa v) = some v := (numOf_iff _ _).2 ⟨rfl, h⟩

/-! Orders. -/

def wordsL : List Txt :=
  [[], [99, 111, 109, 101], [108, 101, 97, 118, 101], [104, 111, 108, 100], [102, 114, 101, 101], [99, 104, 97, 110, 103, 101], [107, 101, 101, 112], [100, 114, 111, 112],
   [115, 104, 117, 116], [119, 97, 105, 116], [98, 101, 103, 105, 110], [99, 111, 109, 109, 105, 116], [117, 110, 100, 111], [103, 117, 101, 115, 115], [97, 115, 107]]
def countsL : List Nat := [0, 3, 1, 1, 1, 2, 3, 1, 1, 1, 0, 0, 0, 3, 1]

def kindOf (w : Txt) : Nat := wordsL.idxOf w

def numsOf : List Txt → Option (List Int)
  | [] => some []
  | x :: r => match numOf x, numsOf r with
    | some v, some l => some (v :: l)
    | _, _ => none

def orderOf (k : Nat) (ns : List Int) : Order := ⟨k, ns.getD 0 0, ns.getD 1 0, ns.getD 2 0⟩

def parseT (l : List Txt) : Option Order :=
  match l with
  | [] => none
  | w :: args =>
    if 1 ≤ kindOf w ∧ kindOf w ≤ 14 ∧ args.length = countsL.getD (kindOf w) 0 then (numsOf args).map (orderOf (kindOf w)) else none

def parseL (s : Txt) : Option Order := if 60 < s.length then none else parseT (toks s)

def goodO (o : Order) : Bool :=
  decide (1 ≤ o.kind) && decide (o.kind ≤ 14) && inLim o.a && inLim o.b && inLim o.c &&
  (decide (0 < countsL.getD o.kind.toNat 0) || decide (o.a = 0)) && (decide (1 < countsL.getD o.kind.toNat 0) || decide (o.b = 0)) && (decide (2 < countsL.getD o.kind.toNat 0) || decide (o.c = 0))

def nums (o : Order) : List Int := [o.a, o.b, o.c].take (countsL.getD o.kind.toNat 0)
def tellT (w : Txt) (ns : List Int) : Txt := w ++ ns.flatMap fun n => 32 :: Lib.itoa n
def printL (o : Order) : Txt := tellT (wordsL.getD o.kind.toNat []) (nums o)

theorem words_chars : ∀ k, k < 15 → ∀ c ∈ wordsL.getD k [], c ≠ 32 := by decide
theorem words_ne : ∀ k, k < 15 → 1 ≤ k → wordsL.getD k [] ≠ [] := by decide
theorem words_kind : ∀ k, k < 15 → kindOf (wordsL.getD k []) = k := by decide
theorem words_len : ∀ k, k < 15 → (wordsL.getD k []).length ≤ 6 := by decide
theorem counts_le : ∀ k, k < 15 → countsL.getD k 0 ≤ 3 := by decide

theorem take3 (a b c : Int) {m : Nat} (h : m ≤ 3) : ([a, b, c].take m).length = m := by rw [List.length_take]; exact Nat.min_eq_left h
theorem take_get (l : List Int) (m i : Nat) : (l.take m).getD i 0 = if i < m then l.getD i 0 else 0 := by
  simp only [List.getD_eq_getElem?_getD, List.getElem?_take]; split <;> rfl

theorem toks_nums (ns : List Int) : ∀ w : Txt, w ≠ [] → (∀ c ∈ w, c ≠ 32) → toks (tellT w ns) = w :: ns.map Lib.itoa := by
  induction ns with
  | nil =>
    intro w hw hc
    simp only [tellT, List.flatMap_nil, List.append_nil, List.map_nil]
    rw [toks_last w hc, if_neg hw]
  | cons n ns ih =>
    intro w hw hc
    have : tellT w (n :: ns) = w ++ 32 :: tellT (Lib.itoa n) ns := by simp [tellT]
    rw [this, toks_cut w _ hc, if_neg hw, ih _ (itoa_ne n) (itoa_chars n)]
    rfl

theorem numsOf_itoa (ns : List Int) (h : ∀ n ∈ ns, inLim n = true) : numsOf (ns.map Lib.itoa) = some ns := by
  induction ns with
  | nil => rfl
  | cons n ns ih =>
    rw [List.map_cons, numsOf, numOf_itoa (h n (by simp)), ih fun m hm => h m (by simp [hm])]

theorem tell_len (w : Txt) (ns : List Int) (h : ∀ n ∈ ns, inLim n = true) : (tellT w ns).length ≤ w.length + 12 * ns.length := by
  have : (ns.flatMap fun n => 32 :: Lib.itoa n).length ≤ 12 * ns.length := by
    induction ns with
    | nil => simp
    | cons n ns ih =>
      have h1 := h n (by simp)
      simp only [inLim, Bool.and_eq_true, decide_eq_true_eq] at h1
      have := itoa_len n h1.1 h1.2
      have := ih fun m hm => h m (by simp [hm])
      rw [List.flatMap_cons, List.length_append, List.length_cons, List.length_cons]; omega
  unfold tellT
  rw [List.length_append]; omega

theorem goodO_iff (o : Order) : goodO o = true ↔ 1 ≤ o.kind ∧ o.kind ≤ 14 ∧ inLim o.a = true ∧ inLim o.b = true ∧ inLim o.c = true ∧
    (0 < countsL.getD o.kind.toNat 0 ∨ o.a = 0) ∧ (1 < countsL.getD o.kind.toNat 0 ∨ o.b = 0) ∧ (2 < countsL.getD o.kind.toNat 0 ∨ o.c = 0) := by
  simp only [goodO, Bool.and_eq_true, decide_eq_true_eq, Bool.or_eq_true, and_assoc]

theorem print_len {o : Order} (h : goodO o = true) : (printL o).length ≤ 42 := by
  obtain ⟨h1, h2, ha, hb, hc, _⟩ := (goodO_iff o).1 h
  have hk : o.kind.toNat < 15 := by omega
  have hn : ∀ n ∈ nums o, inLim n = true := fun n hn => by
    have := List.mem_of_mem_take hn
    simp only [List.mem_cons, List.not_mem_nil, or_false] at this
    rcases this with rfl | rfl | rfl <;> assumption
  have := tell_len (wordsL.getD o.kind.toNat []) (nums o) hn
  have := words_len _ hk
  have : (nums o).length ≤ 3 := by have := counts_le _ hk; unfold nums; rw [take3 _ _ _ this]; exact this
  unfold printL; omega

/-- What is printed of a good order is read as it. -/
theorem parse_print {o : Order} (h : goodO o = true) : parseL (printL o) = some o := by
  obtain ⟨h1, h2, ha, hb, hc, h6, h7, h8⟩ := (goodO_iff o).1 h
  have hk : o.kind.toNat < 15 := by omega
  have hn : ∀ n ∈ nums o, inLim n = true := fun n hn => by
    have := List.mem_of_mem_take hn
    simp only [List.mem_cons, List.not_mem_nil, or_false] at this
    rcases this with rfl | rfl | rfl <;> assumption
  have hl := print_len h
  unfold parseL
  rw [if_neg (by omega)]
  unfold printL
  rw [toks_nums _ _ (words_ne _ hk (by omega)) (words_chars _ hk)]
  unfold parseT
  simp only [words_kind _ hk]
  have hc3 := counts_le _ hk
  rw [if_pos ⟨by omega, by omega, by rw [List.length_map]; exact take3 _ _ _ hc3⟩, numsOf_itoa _ hn]
  obtain ⟨k, a, b, c⟩ := o
  simp only [nums] at *
  simp only [Option.map_some, orderOf, Option.some.injEq, Order.mk.injEq, take_get]
  refine ⟨by omega, ?_, ?_, ?_⟩
  · rcases h6 with h | h
    · rw [if_pos h]; rfl
    · subst h; split <;> rfl
  · rcases h7 with h | h
    · rw [if_pos h]; rfl
    · subst h; split <;> rfl
  · rcases h8 with h | h
    · rw [if_pos h]; rfl
    · subst h; split <;> rfl

theorem numsOf_lim : ∀ (l : List Txt) (ns : List Int), numsOf l = some ns → ns.length = l.length ∧ ∀ n ∈ ns, inLim n = true
  | [], ns, h => by simp only [numsOf, Option.some.injEq] at h; subst h; exact ⟨rfl, by simp⟩
  | x :: r, ns, h => by
    rw [numsOf] at h
    split at h
    · rename_i v l h1 h2
      injection h with h; subst h
      obtain ⟨g1, g2⟩ := numsOf_lim r l h2
      refine ⟨by simp [g1], fun n hn => ?_⟩
      rcases List.mem_cons.1 hn with rfl | hn
      · exact ((numOf_iff _ _).1 h1).2
      · exact g2 n hn
    · cases h

/-- Whatever is read is a good order. -/
theorem parse_good {s : Txt} {o : Order} (h : parseL s = some o) : goodO o = true := by
  unfold parseL at h
  split at h
  · cases h
  unfold parseT at h
  split at h
  · cases h
  rename_i w args _
  split at h
  · rename_i hk
    obtain ⟨k1, k2, k3⟩ := hk
    cases hn : numsOf args with
    | none => rw [hn] at h; cases h
    | some ns =>
      rw [hn] at h
      simp only [Option.map_some, Option.some.injEq] at h
      subst h
      obtain ⟨g1, g2⟩ := numsOf_lim _ _ hn
      have hz : ∀ i, inLim (ns.getD i 0) = true := fun i => by
        rw [List.getD_eq_getElem?_getD]
        by_cases hi : i < ns.length
        · rw [List.getElem?_eq_getElem hi]; exact g2 _ (List.getElem_mem hi)
        · rw [List.getElem?_eq_none (by omega)]; decide
      have h0 : ∀ i, ns.length ≤ i → ns.getD i 0 = 0 := fun i hi => by
        rw [List.getD_eq_getElem?_getD, List.getElem?_eq_none hi]; rfl
      have k3' : countsL.getD ((kindOf w : Int)).toNat 0 = ns.length := by rw [Int.toNat_natCast, g1, k3]
      refine (goodO_iff _).2 ⟨by show (1 : Int) ≤ (kindOf w : Int); omega, by show (kindOf w : Int) ≤ 14; omega, hz 0, hz 1, hz 2, ?_, ?_, ?_⟩
      · show 0 < countsL.getD ((kindOf w : Int)).toNat 0 ∨ ns.getD 0 0 = 0
        by_cases c : 0 < ns.length
        · exact .inl (by omega)
        · exact .inr (h0 0 (by omega))
      · show 1 < countsL.getD ((kindOf w : Int)).toNat 0 ∨ ns.getD 1 0 = 0
        by_cases c : 1 < ns.length
        · exact .inl (by omega)
        · exact .inr (h0 1 (by omega))
      · show 2 < countsL.getD ((kindOf w : Int)).toNat 0 ∨ ns.getD 2 0 = 0
        by_cases c : 2 < ns.length
        · exact .inl (by omega)
        · exact .inr (h0 2 (by omega))
  · cases h
end Go.Proofs.Ytifmdkcpbajdcaa.Plain
